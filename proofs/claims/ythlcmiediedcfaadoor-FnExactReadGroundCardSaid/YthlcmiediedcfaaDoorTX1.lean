/-
Texts: numbers as decimals, of both. Conditions: the library's table of powers of ten stands in memory.
-/
import Derived.Shelf.Strconv.Itoa4
import Derived.Shelf.Lay
import Derived.Ground.NamesProg
import Derived.Lib.ItoaMem
import Derived.Lib.AppendIntMem
import Derived.WalkSmall
import Derived.Laws.IdiomStrings
import Derived.Test.YthlcmiediedcfaaDoorGen
set_option linter.unusedVariables false
set_option linter.unusedSimpArgs false
set_option maxRecDepth 100000
namespace Go.Proofs.YthlcmiediedcfaaDoor
open Go.RowKit
section
open Go.Shelf
shelf_lay LaysM.n173 Nm 173 at Tryd as Tryd.laysFmt
end
/-- The text of some bytes. -/
abbrev str (l : List UInt8) : Value := .string ⟨l.toArray⟩
theorem str_cat (a b : List UInt8) : (⟨a.toArray⟩ : ByteArray) ++ ⟨b.toArray⟩ = ⟨(a ++ b).toArray⟩ := by
  apply ByteArray.ext
  simp
/-- The library's table of powers of ten stands in memory. -/
def TabP (W : World) : Prop := Lib.TabIs Tryd.prog W "internal/strconv.uint64pow10" .u64 Lib.pow10Tab
theorem TabP.ext {W W' : World} (h : TabP W) (hb : Below W.heap.size W W') : TabP W' := by
  obtain ⟨g, hg⟩ : ∃ g, Tryd.prog.globalNamed "internal/strconv.uint64pow10" = some g := Option.isSome_iff_exists.1 (by kernel_rfl)
  refine var?_below hb hg ?_ h
  have h2 := h
  unfold TabP Lib.TabIs World.var? at h2
  rw [hg] at h2
  simp only [Option.bind_some] at h2
  by_cases hlt : g < W.heap.size
  · exact hlt
  · rw [Array.getElem?_eq_none (by omega)] at h2
    cases h2
theorem decimal_calls (n : Int) (h0 : -9223372036854775808 ≤ n) (h1 : n ≤ 9223372036854775807) (W : World) (ht : TabP W) :
    Calls Tryd.prog 43 #[.int .i64 n] W fun e w' => e = .returned (str (Lib.itoa n)) ∧ Below W.heap.size W w' := by
  have q : Calls Tryd.prog 84 #[.int .i64 n, .int .i64 10] W fun e w' => e = .returned (.string ⟨(Lib.itoa n).toArray⟩) ∧ ∃ k os, w' = Sort.grow (W.drewN k) os := by
    refine (Any.strconv_FormatInt_10 Tryd.laysFmt n h0 h1 W ht).mono ?_
    rintro e w' ⟨rfl, k, os, rfl⟩
    exact ⟨rfl, k, os, rfl⟩
  have q := Lib.hid q
  clear ht
  go_enter Tryd.func43, Tryd.ntmps43
  go_wp2_with fail
  refine q.out.mono ?_
  rintro e w' ⟨rfl, k, os, rfl⟩
  go_wp2_with fail
  go_ret
  exact ⟨rfl, Lib.below_grow _ _ (Nat.le_refl _) _ _⟩
theorem decLen : ∀ (d n : Nat), n < 10 ^ (d + 1) → (Lib.decDigits n).length ≤ d + 1
  | 0, n, h => by rw [Lib.decDigits_one (by simpa using h)]; simp
  | d + 1, n, h => by
    rw [Lib.decDigits]
    split
    · simp
    · rw [List.length_append]
      have := decLen d (n / 10) (by rw [Nat.pow_succ] at h; omega)
      simp only [List.length_singleton]
      omega
theorem decLen20 {n : Nat} (h : n ≤ 9223372036854775807) : (Lib.decDigits n).length ≤ 20 := decLen 19 n (by omega)
theorem of_drew {w w1 : World} (h : Below w.drew.heap.size w.drew w1) : Below w.heap.size w w1 := ⟨h.os, h.tape, h.output, h.size, h.block⟩
theorem new1 (w : World) (c : Nat) : (w.alloc (.cells #[.int .u8 (c : Int)] 5)).cell? ⟨w.heap.size, 0, none⟩ = some (.int .u8 (c : Int)) := (Bk.new w _ _ _ rfl).cell 0 _ rfl
theorem conv1 (c : Nat) (hc : c < 256) (g : Nat) (w : World) (h : w.cell? ⟨g, 0, none⟩ = some (.int .u8 (c : Int))) :
    (convert 94 9 (.slice (some ⟨g, 0, none⟩) 1 1)).run Tryd.prog w = .ok (.string ⟨[UInt8.ofNat c].toArray⟩) w := by
  have := run_convert_bytes_back (P := Tryd.prog) w 94 9 5 ⟨g, 0, none⟩ 1 [UInt8.ofNat c] Tryd.underlying94 Tryd.underlying5 Tryd.underlying9 (fun j hj => by
    have hj0 : j = 0 := by simp at hj; omega
    subst hj0
    simp only [List.getElem_cons_zero]
    rw [show (⟨g, 0, none⟩ : Addr).add 0 = ⟨g, 0, none⟩ from rfl, h]
    have : (UInt8.ofNat c).toNat = c := by simp; omega
    rw [this])
  simpa using this
set_option maxHeartbeats 1000000 in
theorem sDec_calls : ∀ (b n : Nat), n < b → n ≤ 9223372036854775807 → ∀ W, Calls Tryd.prog 81 #[.int .i64 (n : Int)] W fun e w' => e = .returned (str (Lib.decDigits n)) ∧ Below W.heap.size W w'
  | 0, n, h, _, _ => by omega
  | b + 1, n, h, hn, W => by
    by_cases h10 : n < 10
    · obtain ⟨c, hc⟩ : ∃ c, 48 + n = c := ⟨_, rfl⟩
      have hd := Lib.hid (show Lib.decDigits n = [UInt8.ofNat c] from by rw [Lib.decDigits_one h10, hc])
      have hB := Lib.hid ((Below.refl W.heap.size W).alloc (Nat.le_refl _) (.cells #[.int .u8 (c : Int)] 5))
      have hm : (n : Int) % 10 = (n : Int) := by omega
      have hu : IntKind.u8.wrap (48 + (n : Int)) = (c : Int) := by subst hc; simp [IntKind.wrap, IntKind.signed, IntKind.bits]; omega
      have hcv := conv1 c (by omega) W.heap.size (W.alloc (.cells #[.int .u8 (c : Int)] 5)) (new1 W _)
      go_enter Tryd.func81, Tryd.ntmps81
      go_wp2_with fail
      go_ret
      exact ⟨by rw [hd.out]; rfl, hB.out⟩
    · obtain ⟨a, ha⟩ : ∃ a, n / 10 = a := ⟨_, rfl⟩
      obtain ⟨r, hr⟩ : ∃ r, n % 10 = r := ⟨_, rfl⟩
      obtain ⟨c, hc0⟩ : ∃ c, 48 + r = c := ⟨_, rfl⟩
      have ih := Lib.hid (fun W' => sDec_calls b a (by omega) (by omega) W')
      have hd := Lib.hid (show Lib.decDigits n = Lib.decDigits a ++ [UInt8.ofNat c] from by rw [Lib.decDigits, dif_neg h10, ha, hr, hc0])
      have hc : c < 256 := by omega
      have e1 : (n : Int) / 10 = (a : Int) := by omega
      have e2 : (n : Int) % 10 = (r : Int) := by omega
      have hr2 : r < 10 := by omega
      have hu : IntKind.u8.wrap (48 + (r : Int)) = (c : Int) := by subst hc0; simp [IntKind.wrap, IntKind.signed, IntKind.bits] <;> omega
      have ha2 : a ≤ 9223372036854775807 := by omega
      have e3 : (n : Int).tmod 10 = (r : Int) := by rw [Int.tmod_eq_emod_of_nonneg (by omega)]; exact e2
      have hcat : (9223372036854775807 < (Lib.decDigits a).length + 1) = False := by have := decLen20 ha2; simp; omega
      have w1 : IntKind.i64.wrap (a : Int) = (a : Int) := by rw [IntKind.wrap_i64]; omega
      have w2 : IntKind.i64.wrap (48 + (r : Int)) = 48 + (r : Int) := by rw [IntKind.wrap_i64]; omega
      clear hr ha
      go_enter Tryd.func81, Tryd.ntmps81
      go_wp2_with fail
      refine wp_region_held_drew (S := (fun _ => True)) (by kernel_rfl) ?r1_1_hS0 (fun hHeld => ?r1_1_rest)
      case r1_1_hS0 => (try dsimp only); try trivial
      refine wpAnyH_take (i := 0) (v := ?r1_2_vv) (by (simp only [List.getElem?_toArray, List.getElem?_cons_succ, List.getElem?_cons_zero]; rfl)) (by kernel_rfl) (by kernel_rfl) (by kernel_rfl) (by exact fun _ _ _ h => h) (Or.inl ⟨by rfl, ?r1_2_hy⟩) (by assumption) ?r1_2_rest
      case r1_2_hy => intro w hSw; (try dsimp only at hSw); (go_simp <;> (with_reducible rfl))
      try simp only [Act.put, List.setIfInBounds_toArray, List.set_cons_zero, List.set_cons_succ]
      refine wpAnyH_take (i := 1) (v := ?r1_3_vv) (by (simp only [List.getElem?_toArray, List.getElem?_cons_succ, List.getElem?_cons_zero]; rfl)) (by kernel_rfl) (by kernel_rfl) (by kernel_rfl) (by exact fun _ _ _ h => h) (Or.inl ⟨by rfl, ?r1_3_hy⟩) (by assumption) ?r1_3_rest
      case r1_3_hy => intro w hSw; (try dsimp only at hSw); (go_simp <;> (with_reducible rfl))
      try simp only [Act.put, List.setIfInBounds_toArray, List.set_cons_zero, List.set_cons_succ]
      refine wpAnyH_take (i := 3) (v := ?r1_4_vv) (by (simp only [List.getElem?_toArray, List.getElem?_cons_succ, List.getElem?_cons_zero]; rfl)) (by kernel_rfl) (by kernel_rfl) (by kernel_rfl) (by exact fun _ _ _ h => h) (Or.inl ⟨by rfl, ?r1_4_hy⟩) (by assumption) ?r1_4_rest
      case r1_4_hy => intro w hSw; (try dsimp only at hSw); (go_simp <;> (with_reducible rfl))
      try simp only [Act.put, List.setIfInBounds_toArray, List.set_cons_zero, List.set_cons_succ]
      refine wpAnyH_take (i := 4) (v := ?r1_5_vv) (by (simp only [List.getElem?_toArray, List.getElem?_cons_succ, List.getElem?_cons_zero]; rfl)) (by kernel_rfl) (by kernel_rfl) (by kernel_rfl) (by exact fun _ _ _ h => h) (Or.inl ⟨by rfl, ?r1_5_hy⟩) (by assumption) ?r1_5_rest
      case r1_5_hy => intro w hSw; (try dsimp only at hSw); (go_simp <;> (with_reducible rfl))
      try simp only [Act.put, List.setIfInBounds_toArray, List.set_cons_zero, List.set_cons_succ]
      refine wpAnyH_take (i := 5) (v := ?r1_6_vv) (by (simp only [List.getElem?_toArray, List.getElem?_cons_succ, List.getElem?_cons_zero]; rfl)) (by kernel_rfl) (by kernel_rfl) (by kernel_rfl) (by exact fun _ _ _ h => h) (Or.inl ⟨by rfl, ?r1_6_hy⟩) (by assumption) ?r1_6_rest
      case r1_6_hy => intro w hSw; (try dsimp only at hSw); (go_simp <;> (with_reducible rfl))
      try simp only [Act.put, List.setIfInBounds_toArray, List.set_cons_zero, List.set_cons_succ]
      refine wpAnyH_take (i := 6) (v := ?r1_7_vv) (by (simp only [List.getElem?_toArray, List.getElem?_cons_succ, List.getElem?_cons_zero]; rfl)) (by kernel_rfl) (by kernel_rfl) (by kernel_rfl) (by exact fun _ _ _ h => h) (Or.inl ⟨by rfl, ?r1_7_hy⟩) (by assumption) ?r1_7_rest
      case r1_7_hy => intro w hSw; (try dsimp only at hSw); (go_simp <;> (with_reducible rfl))
      try simp only [Act.put, List.setIfInBounds_toArray, List.set_cons_zero, List.set_cons_succ]
      refine wpAnyH_ready (rs := [2, 7]) (by kernel_rfl) (by simp) ?_
      refine (AllReadyH.cons (by (simp only [List.getElem?_toArray, List.getElem?_cons_succ, List.getElem?_cons_zero]; rfl)) (fun K hK => ?_) (AllReadyH.cons (by (simp only [List.getElem?_toArray, List.getElem?_cons_succ, List.getElem?_cons_zero]; rfl)) (fun K hK => ?_) AllReadyH.nil))
      · go_simp
        (go_at_call 81; with_reducible refine (ih.out _).mono ?_; rintro e w9 ⟨rfl, hb9⟩)
        try go_wp2_with fail
        refine hK.out _ _ ?r1_8_hS (fun hHeld => ?r1_8_r)
        case r1_8_hS => (try dsimp only); try trivial
        clear hK K
        try simp only [Act.put, List.setIfInBounds_toArray, List.set_cons_zero, List.set_cons_succ]
        refine wpAnyH_ready (rs := [7]) (by kernel_rfl) (by simp) ?_
        refine (AllReadyH.cons (by (simp only [List.getElem?_toArray, List.getElem?_cons_succ, List.getElem?_cons_zero]; rfl)) (fun K hK => ?_) AllReadyH.nil)
        go_simp
        skip
        try go_wp2_with fail
        refine hK.out _ _ ?r1_9_hS (fun hHeld => ?r1_9_r)
        case r1_9_hS => (try dsimp only); try trivial
        clear hK K
        try simp only [Act.put, List.setIfInBounds_toArray, List.set_cons_zero, List.set_cons_succ]
        refine wpAnyH_ready (rs := [8]) (by kernel_rfl) (by simp) ?_
        refine (AllReadyH.cons (by (simp only [List.getElem?_toArray, List.getElem?_cons_succ, List.getElem?_cons_zero]; rfl)) (fun K hK => ?_) AllReadyH.nil)
        go_simp
        (first | rw [conv1 _ hc _ _ (new1 _ _)] | rw [conv1 _ hc _ (W.alloc (.cells #[.int .u8 (c : Int)] 5)).drew (new1 W c)] | rw [conv1 _ hc _ _ (by first | exact (hb9.cell (p := ⟨W.heap.size, 0, none⟩) (by simp)).trans (new1 W _)) ])
        try go_wp2_with fail
        refine hK.out _ _ ?r1_10_hS (fun hHeld => ?r1_10_r)
        case r1_10_hS => (try dsimp only); try trivial
        clear hK K
        try simp only [Act.put, List.setIfInBounds_toArray, List.set_cons_zero, List.set_cons_succ]
        refine wpAnyH_take (i := 9) (v := ?r1_11_vv) (by (simp only [List.getElem?_toArray, List.getElem?_cons_succ, List.getElem?_cons_zero]; rfl)) (by kernel_rfl) (by kernel_rfl) (by kernel_rfl) (by exact fun _ _ _ h => h) (Or.inl ⟨by rfl, ?r1_11_hy⟩) (by assumption) ?r1_11_rest
        case r1_11_hy => intro w hSw; (try dsimp only at hSw); (go_simp <;> (with_reducible rfl))
        try simp only [Act.put, List.setIfInBounds_toArray, List.set_cons_zero, List.set_cons_succ]
        refine wpAnyH_take (i := 10) (v := ?r1_12_vv) (by (simp only [List.getElem?_toArray, List.getElem?_cons_succ, List.getElem?_cons_zero]; rfl)) (by kernel_rfl) (by kernel_rfl) (by kernel_rfl) (by exact fun _ _ _ h => h) (Or.inl ⟨by rfl, ?r1_12_hy⟩) (by assumption) ?r1_12_rest
        case r1_12_hy => intro w hSw; (try dsimp only at hSw); (go_simp <;> (with_reducible rfl))
        try simp only [Act.put, List.setIfInBounds_toArray, List.set_cons_zero, List.set_cons_succ]
        refine wpAnyH_done (by kernel_rfl) ?_ _
        go_wp2_with fail
        go_ret
        exact ⟨by rw [hd.out]; exact congrArg Ending.returned (congrArg Value.string (str_cat _ _)), by first | exact ext_alloc (of_drew hb9) _ | exact (ext_alloc (of_drew hb9) _).drew | exact ext_of_alloc (of_drew hb9) | exact (ext_of_alloc (of_drew hb9)).drew⟩
      · go_simp
        skip
        try go_wp2_with fail
        refine hK.out _ _ ?r1_13_hS (fun hHeld => ?r1_13_r)
        case r1_13_hS => (try dsimp only); try trivial
        clear hK K
        try simp only [Act.put, List.setIfInBounds_toArray, List.set_cons_zero, List.set_cons_succ]
        refine wpAnyH_ready (rs := [2, 8]) (by kernel_rfl) (by simp) ?_
        refine (AllReadyH.cons (by (simp only [List.getElem?_toArray, List.getElem?_cons_succ, List.getElem?_cons_zero]; rfl)) (fun K hK => ?_) (AllReadyH.cons (by (simp only [List.getElem?_toArray, List.getElem?_cons_succ, List.getElem?_cons_zero]; rfl)) (fun K hK => ?_) AllReadyH.nil))
        · go_simp
          (go_at_call 81; with_reducible refine (ih.out _).mono ?_; rintro e w9 ⟨rfl, hb9⟩)
          try go_wp2_with fail
          refine hK.out _ _ ?r1_14_hS (fun hHeld => ?r1_14_r)
          case r1_14_hS => (try dsimp only); try trivial
          clear hK K
          try simp only [Act.put, List.setIfInBounds_toArray, List.set_cons_zero, List.set_cons_succ]
          refine wpAnyH_ready (rs := [8]) (by kernel_rfl) (by simp) ?_
          refine (AllReadyH.cons (by (simp only [List.getElem?_toArray, List.getElem?_cons_succ, List.getElem?_cons_zero]; rfl)) (fun K hK => ?_) AllReadyH.nil)
          go_simp
          (first | rw [conv1 _ hc _ _ (new1 _ _)] | rw [conv1 _ hc _ (W.alloc (.cells #[.int .u8 (c : Int)] 5)).drew (new1 W c)] | rw [conv1 _ hc _ _ (by first | exact (hb9.cell (p := ⟨W.heap.size, 0, none⟩) (by simp)).trans (new1 W _)) ])
          try go_wp2_with fail
          refine hK.out _ _ ?r1_15_hS (fun hHeld => ?r1_15_r)
          case r1_15_hS => (try dsimp only); try trivial
          clear hK K
          try simp only [Act.put, List.setIfInBounds_toArray, List.set_cons_zero, List.set_cons_succ]
          refine wpAnyH_take (i := 9) (v := ?r1_16_vv) (by (simp only [List.getElem?_toArray, List.getElem?_cons_succ, List.getElem?_cons_zero]; rfl)) (by kernel_rfl) (by kernel_rfl) (by kernel_rfl) (by exact fun _ _ _ h => h) (Or.inl ⟨by rfl, ?r1_16_hy⟩) (by assumption) ?r1_16_rest
          case r1_16_hy => intro w hSw; (try dsimp only at hSw); (go_simp <;> (with_reducible rfl))
          try simp only [Act.put, List.setIfInBounds_toArray, List.set_cons_zero, List.set_cons_succ]
          refine wpAnyH_take (i := 10) (v := ?r1_17_vv) (by (simp only [List.getElem?_toArray, List.getElem?_cons_succ, List.getElem?_cons_zero]; rfl)) (by kernel_rfl) (by kernel_rfl) (by kernel_rfl) (by exact fun _ _ _ h => h) (Or.inl ⟨by rfl, ?r1_17_hy⟩) (by assumption) ?r1_17_rest
          case r1_17_hy => intro w hSw; (try dsimp only at hSw); (go_simp <;> (with_reducible rfl))
          try simp only [Act.put, List.setIfInBounds_toArray, List.set_cons_zero, List.set_cons_succ]
          refine wpAnyH_done (by kernel_rfl) ?_ _
          go_wp2_with fail
          go_ret
          exact ⟨by rw [hd.out]; exact congrArg Ending.returned (congrArg Value.string (str_cat _ _)), by first | exact ext_alloc (of_drew hb9) _ | exact (ext_alloc (of_drew hb9) _).drew | exact ext_of_alloc (of_drew hb9) | exact (ext_of_alloc (of_drew hb9)).drew⟩
        · go_simp
          (first | rw [conv1 _ hc _ _ (new1 _ _)] | rw [conv1 _ hc _ (W.alloc (.cells #[.int .u8 (c : Int)] 5)).drew (new1 W c)] | rw [conv1 _ hc _ _ (by first | exact (hb9.cell (p := ⟨W.heap.size, 0, none⟩) (by simp)).trans (new1 W _)) ])
          try go_wp2_with fail
          refine hK.out _ _ ?r1_18_hS (fun hHeld => ?r1_18_r)
          case r1_18_hS => (try dsimp only); try trivial
          clear hK K
          try simp only [Act.put, List.setIfInBounds_toArray, List.set_cons_zero, List.set_cons_succ]
          refine wpAnyH_ready (rs := [2]) (by kernel_rfl) (by simp) ?_
          refine (AllReadyH.cons (by (simp only [List.getElem?_toArray, List.getElem?_cons_succ, List.getElem?_cons_zero]; rfl)) (fun K hK => ?_) AllReadyH.nil)
          go_simp
          (go_at_call 81; with_reducible refine (ih.out _).mono ?_; rintro e w9 ⟨rfl, hb9⟩)
          try go_wp2_with fail
          refine hK.out _ _ ?r1_19_hS (fun hHeld => ?r1_19_r)
          case r1_19_hS => (try dsimp only); try trivial
          clear hK K
          try simp only [Act.put, List.setIfInBounds_toArray, List.set_cons_zero, List.set_cons_succ]
          refine wpAnyH_take (i := 9) (v := ?r1_20_vv) (by (simp only [List.getElem?_toArray, List.getElem?_cons_succ, List.getElem?_cons_zero]; rfl)) (by kernel_rfl) (by kernel_rfl) (by kernel_rfl) (by exact fun _ _ _ h => h) (Or.inl ⟨by rfl, ?r1_20_hy⟩) (by assumption) ?r1_20_rest
          case r1_20_hy => intro w hSw; (try dsimp only at hSw); (go_simp <;> (with_reducible rfl))
          try simp only [Act.put, List.setIfInBounds_toArray, List.set_cons_zero, List.set_cons_succ]
          refine wpAnyH_take (i := 10) (v := ?r1_21_vv) (by (simp only [List.getElem?_toArray, List.getElem?_cons_succ, List.getElem?_cons_zero]; rfl)) (by kernel_rfl) (by kernel_rfl) (by kernel_rfl) (by exact fun _ _ _ h => h) (Or.inl ⟨by rfl, ?r1_21_hy⟩) (by assumption) ?r1_21_rest
          case r1_21_hy => intro w hSw; (try dsimp only at hSw); (go_simp <;> (with_reducible rfl))
          try simp only [Act.put, List.setIfInBounds_toArray, List.set_cons_zero, List.set_cons_succ]
          refine wpAnyH_done (by kernel_rfl) ?_ _
          go_wp2_with fail
          go_ret
          exact ⟨by rw [hd.out]; exact congrArg Ending.returned (congrArg Value.string (str_cat _ _)), by first | exact ext_alloc (of_drew hb9) _ | exact (ext_alloc (of_drew hb9) _).drew | exact ext_of_alloc (of_drew hb9) | exact (ext_of_alloc (of_drew hb9)).drew⟩
end Go.Proofs.YthlcmiediedcfaaDoor
