/-
The source of choices: bytes that are read. Conditions: the bytes can be read; at most a million choices.
-/
import Derived.Test.YtgifakacnneleaaGen
import Derived.Laws.Bits64b
set_option linter.unusedVariables false
set_option linter.unusedSimpArgs false
set_option maxRecDepth 100000
namespace Go.Proofs.Ytgifakacnneleaa
open Go.RowKit
def u8c (x : Int) : List Value := [.int .u8 x]
def u8v (x : Int) : Value := .int .u8 x
theorem u8c_len (x : Int) : (u8c x).length = 1 := rfl
theorem Sl.u8 {w : World} {B : Nat} {v : Value} {xs : List Int} (h : Sl w B u8c 1 v xs) : ∃ A cap, v = .slice A xs.length cap ∧ xs.length ≤ cap ∧ cap ≤ 9223372036854775807 ∧
    ∀ k (hk : k < xs.length), ∃ b o, A = some ⟨b, o, none⟩ ∧ b < B ∧ w.cell? ⟨b, o + k, none⟩ = some (.int .u8 xs[k]) := by
  obtain ⟨A, cap, rfl, hl, hm, hc⟩ := h.out
  refine ⟨A, cap, rfl, hl, hm, fun k hk => ?_⟩
  obtain ⟨b, o, rfl, hb, hcell⟩ := hc (by omega)
  have := hcell k xs[k] (by simp [hk]) 0 _ rfl
  exact ⟨b, o, rfl, hb, by simpa using this⟩
/-- Bytes that can be read, and are few. -/
structure Bys (W : World) (B : Nat) (z : Value) (xs : List Int) : Prop where
  sl : Sl W B u8c 1 z xs
  ok : ∀ q ∈ xs, 0 ≤ q ∧ q ≤ 255
/-- The source of choices at block g, of which n numbers have been taken. -/
structure SrcI (w : World) (g n : Nat) (z : Value) : Prop where
  out : ∃ s : Nat, s < 18446744073709551616 ∧ Bk w g 78 #[z, .int .i64 (n : Int), .int .u64 (s : Int)]
theorem SrcI.ext {w w' : World} {g n : Nat} {z : Value} (h : SrcI w g n z) (hb : Below w.heap.size w w') : SrcI w' g n z := by
  obtain ⟨s, h0, h1⟩ := h.out
  exact ⟨s, h0, h1.ext hb⟩
theorem SrcI.lt {w : World} {g n : Nat} {z : Value} (h : SrcI w g n z) : g < w.heap.size := by
  obtain ⟨s, h0, h1⟩ := h.out
  exact h1.lt
theorem Bys.grown {W w' : World} {g : Nat} {z : Value} {xs : List Int} (h : Bys W g z xs) (hG : W.grownBy w' (some g)) (hg : g < W.heap.size) : Bys w' g z xs :=
  ⟨h.sl.keep ⟨hG.os, hG.tape, hG.output, hG.size, fun k hk => hG.block k (by omega) (fun e => by injection e with e; omega)⟩, h.ok⟩
theorem u64_fit (a : Int) : ∃ s : Nat, s < 18446744073709551616 ∧ IntKind.u64.wrap a = (s : Int) := by
  have h : IntKind.u64.wrap a = a % 18446744073709551616 := by simp [IntKind.wrap, IntKind.signed, IntKind.bits]
  exact ⟨(a % 18446744073709551616).toNat, by omega, by rw [h]; omega⟩
theorem byte_of (s : Nat) (hs : s < 18446744073709551616) : ∃ r : Nat, r ≤ 255 ∧ bits .and .u64 ((s : Int) / 1099511627776) 255 = (r : Int) := by
  have := bits_and_u64_nat (s / 1099511627776) 255 (by omega) (by omega)
  refine ⟨s / 1099511627776 &&& 255, Nat.and_le_right, ?_⟩
  simpa using this
theorem grown_set (w : World) (g j : Nat) (u : Value) : w.grownBy (w.setCell ⟨g, j, none⟩ u) (some g) :=
  ⟨rfl, rfl, rfl, by simp [World.setCell], fun k _ hne => Below.heap_setCell _ _ _ _ (fun e => hne (by rw [e]))⟩
theorem grown_drewN (w : World) (m : Nat) (g : Option Nat) : w.grownBy (w.drewN m) g := ⟨rfl, rfl, rfl, Nat.le_refl _, fun _ _ _ => rfl⟩
theorem grown_src (w : World) (m g : Nat) (u v : Value) : w.grownBy (((w.drewN m).setCell ⟨g, 1, none⟩ u).setCell ⟨g, 2, none⟩ v) (some g) :=
  (grown_drewN w m _).trans ((grown_set _ g 1 u).trans (grown_set _ g 2 v))
theorem src_set {w : World} {g n s : Nat} {z : Value} (h : Bk w g 78 #[z, .int .i64 (n : Int), .int .u64 (s : Int)]) (m n2 s2 : Nat) :
    Bk (((w.drewN m).setCell ⟨g, 1, none⟩ (.int .i64 (n2 : Int))).setCell ⟨g, 2, none⟩ (.int .u64 (s2 : Int))) g 78 #[z, .int .i64 (n2 : Int), .int .u64 (s2 : Int)] :=
  ((h.drwN m).set 1 _).set 2 _
theorem src_step {w : World} {g n s : Nat} {z : Value} (h : Bk w g 78 #[z, .int .i64 (n : Int), .int .u64 (s : Int)]) (n2 s2 m : Nat) :
    Bk (((w.drewN m).setCell ⟨g, 1, none⟩ (.int .i64 (n2 : Int))).setCell ⟨g, 2, none⟩ (.int .u64 (s2 : Int))) g 78 #[z, .int .i64 (n2 : Int), .int .u64 (s2 : Int)] ∧
    w.grownBy (((w.drewN m).setCell ⟨g, 1, none⟩ (.int .i64 (n2 : Int))).setCell ⟨g, 2, none⟩ (.int .u64 (s2 : Int))) (some g) := ⟨src_set h m n2 s2, grown_src w m g _ _⟩
theorem next_calls (g n : Nat) (z : Value) (xs : List Int) (W : World) (hz : Bys W g z xs) (hs : SrcI W g n z) (hn : n ≤ 1000000) :
    Calls Try.prog 57 #[.pointer (some ⟨g, 0, none⟩)] W fun e w' => ∃ r : Nat, r ≤ 255 ∧ e = .returned (.int .i64 (r : Int)) ∧ SrcI w' g (n + 1) z ∧ W.grownBy w' (some g) := by
  obtain ⟨A, cap, rfl, -, hm, hcell⟩ := hz.sl.u8
  obtain ⟨s, hs0, hb⟩ := hs.out
  have c0 : W.cell? ⟨g, 0, none⟩ = some (.slice A xs.length cap) := hb.cell 0 _ rfl
  have c1 : W.cell? ⟨g, 1, none⟩ = some (.int .i64 (n : Int)) := hb.cell 1 _ rfl
  have c2 : W.cell? ⟨g, 2, none⟩ = some (.int .u64 (s : Int)) := hb.cell 2 _ rfl
  have f1 := hb.frz 1
  have f2 := hb.frz 2
  have HB := Lib.hid hb
  clear hb hs
  by_cases hlt : n < xs.length
  · obtain ⟨b, o, rfl, hbb, h0⟩ := hcell n hlt
    obtain ⟨r, hr⟩ : ∃ r : Nat, xs[n] = (r : Int) := ⟨_, (Int.toNat_of_nonneg (hz.ok _ (List.getElem_mem hlt)).1).symm⟩
    have hr2 := hz.ok _ (List.getElem_mem hlt)
    rw [hr] at h0 hr2
    clear hcell hz
    go_enter Try.func57, Try.ntmps57
    go_wp2_with fail
    go_quiet (fail)
    go_wp2_with fail
    go_quiet (fail)
    go_wp2_with fail
    obtain ⟨s2, hs2, he⟩ := u64_fit (IntKind.u64.wrap (IntKind.u64.wrap ((s : Int) * 6364136223846793005) + (r : Int)) + 1442695040888963407)
    rw [he, show (n : Int) + 1 = ((n + 1 : Nat) : Int) from rfl]
    clear he
    have HW := Lib.hid (src_step HB.out (n + 1) s2)
    clear c0 c1 c2
    generalize hWe : ((W.drewN _).setCell ⟨g, 1, none⟩ (.int .i64 ((n + 1 : Nat) : Int))).setCell ⟨g, 2, none⟩ (.int .u64 (s2 : Int)) = W1
    have HW1 : Bk W1 g 78 #[.slice (some ⟨b, o, none⟩) xs.length cap, .int .i64 ((n + 1 : Nat) : Int), .int .u64 (s2 : Int)] ∧ W.grownBy W1 (some g) := by
      rw [← hWe]; exact HW.out _
    have K1 := Lib.hid HW1.1
    have G1 := Lib.hid HW1.2
    clear HW HW1 hWe HB
    have c0 : W1.cell? ⟨g, 0, none⟩ = some (.slice (some ⟨b, o, none⟩) xs.length cap) := K1.out.cell 0 _ rfl
    have c1 : W1.cell? ⟨g, 1, none⟩ = some (.int .i64 ((n + 1 : Nat) : Int)) := K1.out.cell 1 _ rfl
    go_quiet (fail)
    go_wp2_with fail
    go_ret
    exact ⟨r, by omega, rfl, ⟨s2, hs2, K1.out.drwN _⟩, G1.out.trans (grown_drewN _ _ _)⟩
  · clear hcell hz
    go_enter Try.func57, Try.ntmps57
    go_wp2_with fail
    go_quiet (fail)
    go_wp2_with fail
    obtain ⟨s2, hs2, he⟩ := u64_fit (IntKind.u64.wrap (IntKind.u64.wrap ((s : Int) * 6364136223846793005)) + 1442695040888963407)
    rw [he, show (n : Int) + 1 = ((n + 1 : Nat) : Int) from rfl]
    clear he
    have HW := Lib.hid (src_step HB.out (n + 1) s2)
    clear c0 c1 c2
    generalize hWe : ((W.drewN _).setCell ⟨g, 1, none⟩ (.int .i64 ((n + 1 : Nat) : Int))).setCell ⟨g, 2, none⟩ (.int .u64 (s2 : Int)) = W1
    have HW1 : Bk W1 g 78 #[.slice A xs.length cap, .int .i64 ((n + 1 : Nat) : Int), .int .u64 (s2 : Int)] ∧ W.grownBy W1 (some g) := by
      rw [← hWe]; exact HW.out _
    have K1 := Lib.hid HW1.1
    have G1 := Lib.hid HW1.2
    clear HW HW1 hWe HB
    have c0 : W1.cell? ⟨g, 0, none⟩ = some (.slice A xs.length cap) := K1.out.cell 0 _ rfl
    have c1 : W1.cell? ⟨g, 1, none⟩ = some (.int .i64 ((n + 1 : Nat) : Int)) := K1.out.cell 1 _ rfl
    have c2 : W1.cell? ⟨g, 2, none⟩ = some (.int .u64 (s2 : Int)) := K1.out.cell 2 _ rfl
    obtain ⟨r, hr, hre⟩ := byte_of s2 hs2
    go_quiet (fail)
    go_wp2_with fail
    go_ret
    exact ⟨r, hr, rfl, ⟨s2, hs2, K1.out.drwN _⟩, G1.out.trans (grown_drewN _ _ _)⟩
theorem from_calls (z : Value) (A : Option Addr) (n c : Nat) (hz : z = .slice A n c) (W : World) :
    Calls Try.prog 46 #[z] W fun e w' => e = .returned (.pointer (some ⟨W.heap.size, 0, none⟩)) ∧ w' = W.alloc (.cells #[z, .int .i64 0, .int .u64 0] 78) := by
  subst hz
  go_enter Try.func46, Try.ntmps46
  go_wp2_with fail
  go_ret
  exact ⟨rfl, rfl⟩
theorem SrcI.first (z : Value) (W : World) : SrcI (W.alloc (.cells #[z, .int .i64 0, .int .u64 0] 78)) W.heap.size 0 z := ⟨0, by omega, Bk.new W _ _ _ rfl⟩
theorem pick_calls (g n : Nat) (z : Value) (xs : List Int) (W : World) (m : Int) (hm : m ≤ 60000) (hz : Bys W g z xs) (hs : SrcI W g n z) (hn : n ≤ 900000) :
    Calls Try.prog 47 #[.pointer (some ⟨g, 0, none⟩), .int .i64 m] W fun e w' => ∃ r k : Nat, (r : Int) < max m 1 ∧ e = .returned (.int .i64 (r : Int)) ∧ k ≤ n + 2 ∧ SrcI w' g k z ∧ W.grownBy w' (some g) := by
  have q1 := Lib.hid (next_calls g n z xs W hz hs (by omega))
  have q2 := Lib.hid (fun w' (h : SrcI w' g (n + 1) z) (hG : W.grownBy w' (some g)) => next_calls g (n + 1) z xs w' (hz.grown hG hs.lt) h (by omega))
  have HS := Lib.hid hs
  clear hz hs
  by_cases h1 : m ≤ 1
  · go_enter Try.func47, Try.ntmps47
    go_wp2_with fail
    go_ret
    exact ⟨0, n, by omega, rfl, by omega, HS.out, World.grownBy.refl _ _⟩
  · obtain ⟨mn, rfl⟩ : ∃ mn : Nat, m = (mn : Int) := ⟨m.toNat, by omega⟩
    by_cases h2 : (200 : Int) < (mn : Int)
    · go_enter Try.func47, Try.ntmps47
      go_wp2_with fail
      refine q1.out.mono ?_
      rintro e w1 ⟨r1, hr1, rfl, hs1, hG1⟩
      go_wp2_with fail
      refine (q2.out w1 hs1 hG1).mono ?_
      rintro e w2 ⟨r2, hr2, rfl, hs2, hG2⟩
      go_wp2_with fail
      go_ret
      exact ⟨(r1 * 256 + r2) % mn, n + 1 + 1, by have := Nat.mod_lt (r1 * 256 + r2) (show 0 < mn by omega); omega, by simp, by omega, hs2, hG1.trans hG2⟩
    · go_enter Try.func47, Try.ntmps47
      go_wp2_with fail
      refine q1.out.mono ?_
      rintro e w1 ⟨r1, hr1, rfl, hs1, hG1⟩
      go_wp2_with fail
      go_ret
      exact ⟨r1 % mn, n + 1, by have := Nat.mod_lt r1 (show 0 < mn by omega); omega, by simp, by omega, hs1, hG1⟩
/-- What a draw of a mix holds: the source at g, the mix at b, the result at R. -/
structure MxI (W0 w : World) (R g b : Nat) (z : Value) (xs : List Int) (n : Nat) (x y t : Int) : Prop where
  src : ∃ k, k ≤ n ∧ SrcI w g k z
  by_ : Bys w g z xs
  mix : Bk w b 24 #[.int .i16 x, .int .i16 y, .int .i16 t]
  res : Bk w R 24 #[.int .i16 0, .int .i16 0, .int .i16 0]
  bel : Below W0.heap.size W0 w
theorem MxI.took {W0 w w' : World} {R g b : Nat} {z : Value} {xs : List Int} {n k n2 : Nat} {x y t : Int} (h : MxI W0 w R g b z xs n x y t) (hR : R ≠ g) (hb : b ≠ g) (h0 : W0.heap.size ≤ g) (hk : k ≤ n2) (hs : SrcI w' g k z) (hG : w.grownBy w' (some g)) : MxI W0 w' R g b z xs n2 x y t := by
  obtain ⟨k0, -, hk0⟩ := h.src
  have kp : ∀ j, j < w.heap.size → j ≠ g → w'.heap[j]? = w.heap[j]? := fun j hj hne => hG.block j hj (fun e => hne (by injection e))
  exact ⟨⟨k, hk, hs⟩, h.by_.grown hG hk0.lt, (kp b h.mix.lt hb).trans h.mix, (kp R h.res.lt hR).trans h.res, h.bel.grown hG h.bel.size (fun j hj => by injection hj with hj; omega)⟩
theorem MxI.put {W0 w : World} {R g b : Nat} {z : Value} {xs : List Int} {n : Nat} {x y t : Int} (h : MxI W0 w R g b z xs n x y t) (hR : R ≠ b) (hg : g < b) (h0 : W0.heap.size ≤ b) (i : Nat) (u x2 y2 t2 : Int) (he : (#[Value.int .i16 x, .int .i16 y, .int .i16 t] : Array Value).setIfInBounds i (.int .i16 u) = #[.int .i16 x2, .int .i16 y2, .int .i16 t2]) : MxI W0 (w.setCell ⟨b, i, none⟩ (.int .i16 u)) R g b z xs n x2 y2 t2 := by
  obtain ⟨k0, hk, s, hs0, hk0⟩ := h.src
  refine ⟨⟨k0, hk, ⟨s, hs0, hk0.oth _ _ (by omega)⟩⟩, ⟨h.by_.sl.keep ((Below.refl g w).setCell (p := ⟨b, i, none⟩) (by simp; omega) _), h.by_.ok⟩, ?_, h.res.oth _ _ hR, h.bel.setCell (p := ⟨b, i, none⟩) h0 _⟩
  have := h.mix.set i (.int .i16 u)
  rwa [he] at this
theorem wrap16_in (x : Int) (h0 : -32768 ≤ x) (h1 : x ≤ 32767) : IntKind.i16.wrap x = x := by simp [IntKind.wrap, IntKind.signed, IntKind.bits]; omega
theorem MxI.pick {W0 w : World} {R g b : Nat} {z : Value} {xs : List Int} {n : Nat} {x y t : Int} (h : MxI W0 w R g b z xs n x y t) (hR : R ≠ g) (hb : b ≠ g) (h0 : W0.heap.size ≤ g) (hn : n ≤ 100) (m : Int) (hm : m ≤ 60000) :
    Calls Try.prog 47 #[.pointer (some ⟨g, 0, none⟩), .int .i64 m] w fun e w' => ∃ r : Nat, (r : Int) < max m 1 ∧ e = .returned (.int .i64 (r : Int)) ∧ MxI W0 w' R g b z xs (n + 2) x y t := by
  obtain ⟨k, hk, hs⟩ := h.src
  refine (pick_calls g k z xs w m hm h.by_ hs (by omega)).mono ?_
  rintro e w' ⟨r, k2, hr, rfl, hk2, hs2, hG⟩
  exact ⟨r, hr, rfl, h.took hR hb h0 (by omega) hs2 hG⟩
theorem a2Mix_calls (z : Value) (xs : List Int) (W : World) (hz : Bys W W.heap.size z xs) :
    Calls Try.prog 25 #[z] W fun e w' => ∃ m : Mix, e = .returned (Mix.v m) ∧ (0 ≤ m.x ∧ m.x ≤ 7) ∧ (0 ≤ m.y ∧ m.y ≤ 7) ∧ (0 ≤ m.z ∧ m.z ≤ 7) ∧ 1 ≤ m.x + m.y + m.z ∧ Below W.heap.size W w' := by
  obtain ⟨A, cap, hv, hl, hm, -⟩ := hz.sl.u8
  have qf := Lib.hid (from_calls z A xs.length cap hv (W.alloc (.cells #[.int .i16 0, .int .i16 0, .int .i16 0] 24)))
  have HI := Lib.hid (show MxI W (((W.alloc (.cells #[.int .i16 0, .int .i16 0, .int .i16 0] 24)).alloc (.cells #[z, .int .i64 0, .int .u64 0] 78)).alloc (.cells #[.int .i16 0, .int .i16 0, .int .i16 0] 24)) W.heap.size (W.heap.size + 1) (W.heap.size + 1 + 1) z xs 0 0 0 0 from by
    refine ⟨⟨0, Nat.le_refl _, ?_⟩, ⟨?_, hz.ok⟩, Bk.new _ _ _ _ (by simp), ((Bk.new W _ _ _ rfl).alloc _).alloc _, ?_⟩
    · have := SrcI.first z (W.alloc (.cells #[.int .i16 0, .int .i16 0, .int .i16 0] 24))
      rw [show (W.alloc (.cells #[.int .i16 0, .int .i16 0, .int .i16 0] 24)).heap.size = W.heap.size + 1 from by simp] at this
      exact this.ext ((Below.refl _ _).alloc (Nat.le_refl _) _)
    · exact (hz.sl.keep (((Below.refl _ _).alloc (Nat.le_refl _) _).alloc (by simp) _ |>.alloc (by simp; omega) _)).more (by omega)
    · exact ext_alloc (ext_alloc ((Below.refl W.heap.size W).alloc (Nat.le_refl _) _) _) _)
  subst hv
  clear hz
  unfold Mix.v
  go_enter Try.func25, Try.ntmps25
  go_wp2_with fail
  refine qf.out.mono ?_
  rintro e w1 ⟨rfl, rfl⟩
  rw [show (W.alloc (.cells #[.int .i16 0, .int .i16 0, .int .i16 0] 24)).heap.size = W.heap.size + 1 from by simp]
  clear qf
  go_wp2_with fail
  generalize (((W.alloc (.cells #[.int .i16 0, .int .i16 0, .int .i16 0] 24)).alloc (.cells #[(Value.slice A xs.length cap), .int .i64 0, .int .u64 0] 78)).alloc (.cells #[.int .i16 0, .int .i16 0, .int .i16 0] 24)) = w1 at *
  refine wp_loop_rounds 4 ?_
  rw [rounds_succ]
  go_wp2_with fail
  refine (HI.out.pick (by omega) (by omega) (by omega) (by omega) 7 (by omega)).mono ?_
  rintro e v0 ⟨r0, hr0, rfl, hI0⟩
  have cc : v0.cell? ⟨W.heap.size + 1 + 1, 0, none⟩ = some (.int .i16 0) := hI0.mix.cell 0 _ rfl
  have ff := hI0.mix.frz 0
  have ww : IntKind.i16.wrap (r0 : Int) = (r0 : Int) := wrap16_in _ (by omega) (by omega)
  go_wp2_with fail
  have H0 := Lib.hid (hI0.put (by omega) (by omega) (by omega) 0 (r0 : Int) (r0 : Int) 0 0 rfl)
  clear hI0 cc ff ww HI
  generalize v0.setCell ⟨W.heap.size + 1 + 1, 0, none⟩ (.int .i16 (r0 : Int)) = u0 at *
  rw [rounds_succ]
  go_wp2_with fail
  refine (H0.out.pick (by omega) (by omega) (by omega) (by omega) 7 (by omega)).mono ?_
  rintro e v1 ⟨r1, hr1, rfl, hI1⟩
  have cc : v1.cell? ⟨W.heap.size + 1 + 1, 1, none⟩ = some (.int .i16 0) := hI1.mix.cell 1 _ rfl
  have ff := hI1.mix.frz 1
  have ww : IntKind.i16.wrap (r1 : Int) = (r1 : Int) := wrap16_in _ (by omega) (by omega)
  go_wp2_with fail
  have H1 := Lib.hid (hI1.put (by omega) (by omega) (by omega) 1 (r1 : Int) (r0 : Int) (r1 : Int) 0 rfl)
  clear hI1 cc ff ww H0
  generalize v1.setCell ⟨W.heap.size + 1 + 1, 1, none⟩ (.int .i16 (r1 : Int)) = u1 at *
  rw [rounds_succ]
  go_wp2_with fail
  refine (H1.out.pick (by omega) (by omega) (by omega) (by omega) 7 (by omega)).mono ?_
  rintro e v2 ⟨r2, hr2, rfl, hI2⟩
  have cc : v2.cell? ⟨W.heap.size + 1 + 1, 2, none⟩ = some (.int .i16 0) := hI2.mix.cell 2 _ rfl
  have ff := hI2.mix.frz 2
  have ww : IntKind.i16.wrap (r2 : Int) = (r2 : Int) := wrap16_in _ (by omega) (by omega)
  go_wp2_with fail
  have H2 := Lib.hid (hI2.put (by omega) (by omega) (by omega) 2 (r2 : Int) (r0 : Int) (r1 : Int) (r2 : Int) rfl)
  clear hI2 cc ff ww H1
  generalize v2.setCell ⟨W.heap.size + 1 + 1, 2, none⟩ (.int .i16 (r2 : Int)) = u2 at *
  rw [rounds_succ]
  go_wp2_with fail
  refine (H2.out.pick (by omega) (by omega) (by omega) (by omega) 3 (by omega)).mono ?_
  rintro e v3 ⟨r3, hr3, rfl, hI3⟩
  have h3 : r3 = 0 ∨ r3 = 1 ∨ r3 = 2 := by omega
  have cd0 : v3.cell? ⟨W.heap.size + 1 + 1, 0, none⟩ = some (.int .i16 (r0 : Int)) := hI3.mix.cell 0 _ rfl
  have cd1 : v3.cell? ⟨W.heap.size + 1 + 1, 1, none⟩ = some (.int .i16 (r1 : Int)) := hI3.mix.cell 1 _ rfl
  have cd2 : v3.cell? ⟨W.heap.size + 1 + 1, 2, none⟩ = some (.int .i16 (r2 : Int)) := hI3.mix.cell 2 _ rfl
  have cf0 := hI3.mix.frz 0
  have cf1 := hI3.mix.frz 1
  have cf2 := hI3.mix.frz 2
  have wr0 : IntKind.i16.wrap ((r0 : Int) + 1) = (r0 : Int) + 1 := wrap16_in _ (by omega) (by omega)
  have wr1 : IntKind.i16.wrap ((r1 : Int) + 1) = (r1 : Int) + 1 := wrap16_in _ (by omega) (by omega)
  have wr2 : IntKind.i16.wrap ((r2 : Int) + 1) = (r2 : Int) + 1 := wrap16_in _ (by omega) (by omega)
  clear H2
  rcases h3 with rfl | rfl | rfl
  · go_upto_region 8 with (fail)
    have HM := Lib.hid (hI3.put (by omega) (by omega) (by omega) 0 ((r0 : Int) + 1) ((r0 : Int) + 1) (r1 : Int) (r2 : Int) rfl)
    clear hI3 cd0 cd1 cd2 cf0 cf1 cf2
    generalize v3.setCell ⟨W.heap.size + 1 + 1, 0, none⟩ (.int .i16 ((r0 : Int) + 1)) = v4 at *
    have d0 : v4.cell? ⟨W.heap.size, 0, none⟩ = some (.int .i16 0) := HM.out.res.cell 0 _ rfl
    have e0 : v4.cell? ⟨W.heap.size + 1 + 1, 0, none⟩ = some (.int .i16 ((r0 : Int) + 1)) := HM.out.mix.cell 0 _ rfl
    have d1 : v4.cell? ⟨W.heap.size, 1, none⟩ = some (.int .i16 0) := HM.out.res.cell 1 _ rfl
    have e1 : v4.cell? ⟨W.heap.size + 1 + 1, 1, none⟩ = some (.int .i16 (r1 : Int)) := HM.out.mix.cell 1 _ rfl
    have d2 : v4.cell? ⟨W.heap.size, 2, none⟩ = some (.int .i16 0) := HM.out.res.cell 2 _ rfl
    have e2 : v4.cell? ⟨W.heap.size + 1 + 1, 2, none⟩ = some (.int .i16 (r2 : Int)) := HM.out.mix.cell 2 _ rfl
    have fr := HM.out.res.frz
    go_wp2_with fail
    exact bodyPost_ret (v := .agg #[.int .i16 ((r0 : Int) + 1), .int .i16 (r1 : Int), .int .i16 (r2 : Int)]) (by simp [results, Try.results25, go_sem, d0, d1, d2]) rfl ⟨⟨((r0 : Int) + 1), (r1 : Int), (r2 : Int)⟩, rfl, by simp only; omega, by simp only; omega, by simp only; omega, by simp only; omega, ((HM.out.bel.setCell (p := ⟨_, 0, none⟩) (by simp) _).setCell (p := ⟨_, 1, none⟩) (by simp) _).setCell (p := ⟨_, 2, none⟩) (by simp) _⟩
  · go_upto_region 8 with (fail)
    have HM := Lib.hid (hI3.put (by omega) (by omega) (by omega) 1 ((r1 : Int) + 1) (r0 : Int) ((r1 : Int) + 1) (r2 : Int) rfl)
    clear hI3 cd0 cd1 cd2 cf0 cf1 cf2
    generalize v3.setCell ⟨W.heap.size + 1 + 1, 1, none⟩ (.int .i16 ((r1 : Int) + 1)) = v4 at *
    have d0 : v4.cell? ⟨W.heap.size, 0, none⟩ = some (.int .i16 0) := HM.out.res.cell 0 _ rfl
    have e0 : v4.cell? ⟨W.heap.size + 1 + 1, 0, none⟩ = some (.int .i16 (r0 : Int)) := HM.out.mix.cell 0 _ rfl
    have d1 : v4.cell? ⟨W.heap.size, 1, none⟩ = some (.int .i16 0) := HM.out.res.cell 1 _ rfl
    have e1 : v4.cell? ⟨W.heap.size + 1 + 1, 1, none⟩ = some (.int .i16 ((r1 : Int) + 1)) := HM.out.mix.cell 1 _ rfl
    have d2 : v4.cell? ⟨W.heap.size, 2, none⟩ = some (.int .i16 0) := HM.out.res.cell 2 _ rfl
    have e2 : v4.cell? ⟨W.heap.size + 1 + 1, 2, none⟩ = some (.int .i16 (r2 : Int)) := HM.out.mix.cell 2 _ rfl
    have fr := HM.out.res.frz
    go_wp2_with fail
    exact bodyPost_ret (v := .agg #[.int .i16 (r0 : Int), .int .i16 ((r1 : Int) + 1), .int .i16 (r2 : Int)]) (by simp [results, Try.results25, go_sem, d0, d1, d2]) rfl ⟨⟨(r0 : Int), ((r1 : Int) + 1), (r2 : Int)⟩, rfl, by simp only; omega, by simp only; omega, by simp only; omega, by simp only; omega, ((HM.out.bel.setCell (p := ⟨_, 0, none⟩) (by simp) _).setCell (p := ⟨_, 1, none⟩) (by simp) _).setCell (p := ⟨_, 2, none⟩) (by simp) _⟩
  · go_upto_region 8 with (fail)
    have HM := Lib.hid (hI3.put (by omega) (by omega) (by omega) 2 ((r2 : Int) + 1) (r0 : Int) (r1 : Int) ((r2 : Int) + 1) rfl)
    clear hI3 cd0 cd1 cd2 cf0 cf1 cf2
    generalize v3.setCell ⟨W.heap.size + 1 + 1, 2, none⟩ (.int .i16 ((r2 : Int) + 1)) = v4 at *
    have d0 : v4.cell? ⟨W.heap.size, 0, none⟩ = some (.int .i16 0) := HM.out.res.cell 0 _ rfl
    have e0 : v4.cell? ⟨W.heap.size + 1 + 1, 0, none⟩ = some (.int .i16 (r0 : Int)) := HM.out.mix.cell 0 _ rfl
    have d1 : v4.cell? ⟨W.heap.size, 1, none⟩ = some (.int .i16 0) := HM.out.res.cell 1 _ rfl
    have e1 : v4.cell? ⟨W.heap.size + 1 + 1, 1, none⟩ = some (.int .i16 (r1 : Int)) := HM.out.mix.cell 1 _ rfl
    have d2 : v4.cell? ⟨W.heap.size, 2, none⟩ = some (.int .i16 0) := HM.out.res.cell 2 _ rfl
    have e2 : v4.cell? ⟨W.heap.size + 1 + 1, 2, none⟩ = some (.int .i16 ((r2 : Int) + 1)) := HM.out.mix.cell 2 _ rfl
    have fr := HM.out.res.frz
    go_wp2_with fail
    exact bodyPost_ret (v := .agg #[.int .i16 (r0 : Int), .int .i16 (r1 : Int), .int .i16 ((r2 : Int) + 1)]) (by simp [results, Try.results25, go_sem, d0, d1, d2]) rfl ⟨⟨(r0 : Int), (r1 : Int), ((r2 : Int) + 1)⟩, rfl, by simp only; omega, by simp only; omega, by simp only; omega, by simp only; omega, ((HM.out.bel.setCell (p := ⟨_, 0, none⟩) (by simp) _).setCell (p := ⟨_, 1, none⟩) (by simp) _).setCell (p := ⟨_, 2, none⟩) (by simp) _⟩
theorem a2Stock_calls (z : Value) (xs : List Int) (W : World) (hz : Bys W W.heap.size z xs) :
    Calls Try.prog 26 #[z] W fun e w' => ∃ m : Mix, e = .returned (Mix.v m) ∧ (0 ≤ m.x ∧ m.x ≤ 99) ∧ (0 ≤ m.y ∧ m.y ≤ 99) ∧ (0 ≤ m.z ∧ m.z ≤ 99) ∧ Below W.heap.size W w' := by
  obtain ⟨A, cap, hv, hl, hm, -⟩ := hz.sl.u8
  have qf := Lib.hid (from_calls z A xs.length cap hv (W.alloc (.cells #[.int .i16 0, .int .i16 0, .int .i16 0] 24)))
  have HI := Lib.hid (show MxI W (((W.alloc (.cells #[.int .i16 0, .int .i16 0, .int .i16 0] 24)).alloc (.cells #[z, .int .i64 0, .int .u64 0] 78)).alloc (.cells #[.int .i16 0, .int .i16 0, .int .i16 0] 24)) W.heap.size (W.heap.size + 1) (W.heap.size + 1 + 1) z xs 0 0 0 0 from by
    refine ⟨⟨0, Nat.le_refl _, ?_⟩, ⟨?_, hz.ok⟩, Bk.new _ _ _ _ (by simp), ((Bk.new W _ _ _ rfl).alloc _).alloc _, ?_⟩
    · have := SrcI.first z (W.alloc (.cells #[.int .i16 0, .int .i16 0, .int .i16 0] 24))
      rw [show (W.alloc (.cells #[.int .i16 0, .int .i16 0, .int .i16 0] 24)).heap.size = W.heap.size + 1 from by simp] at this
      exact this.ext ((Below.refl _ _).alloc (Nat.le_refl _) _)
    · exact (hz.sl.keep (((Below.refl _ _).alloc (Nat.le_refl _) _).alloc (by simp) _ |>.alloc (by simp; omega) _)).more (by omega)
    · exact ext_alloc (ext_alloc ((Below.refl W.heap.size W).alloc (Nat.le_refl _) _) _) _)
  subst hv
  clear hz
  unfold Mix.v
  go_enter Try.func26, Try.ntmps26
  go_wp2_with fail
  refine qf.out.mono ?_
  rintro e w1 ⟨rfl, rfl⟩
  rw [show (W.alloc (.cells #[.int .i16 0, .int .i16 0, .int .i16 0] 24)).heap.size = W.heap.size + 1 from by simp]
  clear qf
  go_wp2_with fail
  generalize (((W.alloc (.cells #[.int .i16 0, .int .i16 0, .int .i16 0] 24)).alloc (.cells #[(Value.slice A xs.length cap), .int .i64 0, .int .u64 0] 78)).alloc (.cells #[.int .i16 0, .int .i16 0, .int .i16 0] 24)) = w1 at *
  refine wp_loop_rounds 4 ?_
  rw [rounds_succ]
  go_wp2_with fail
  refine (HI.out.pick (by omega) (by omega) (by omega) (by omega) 100 (by omega)).mono ?_
  rintro e v0 ⟨r0, hr0, rfl, hI0⟩
  have cc : v0.cell? ⟨W.heap.size + 1 + 1, 0, none⟩ = some (.int .i16 0) := hI0.mix.cell 0 _ rfl
  have ff := hI0.mix.frz 0
  have ww : IntKind.i16.wrap (r0 : Int) = (r0 : Int) := wrap16_in _ (by omega) (by omega)
  go_wp2_with fail
  have H0 := Lib.hid (hI0.put (by omega) (by omega) (by omega) 0 (r0 : Int) (r0 : Int) 0 0 rfl)
  clear hI0 cc ff ww HI
  generalize v0.setCell ⟨W.heap.size + 1 + 1, 0, none⟩ (.int .i16 (r0 : Int)) = u0 at *
  rw [rounds_succ]
  go_wp2_with fail
  refine (H0.out.pick (by omega) (by omega) (by omega) (by omega) 100 (by omega)).mono ?_
  rintro e v1 ⟨r1, hr1, rfl, hI1⟩
  have cc : v1.cell? ⟨W.heap.size + 1 + 1, 1, none⟩ = some (.int .i16 0) := hI1.mix.cell 1 _ rfl
  have ff := hI1.mix.frz 1
  have ww : IntKind.i16.wrap (r1 : Int) = (r1 : Int) := wrap16_in _ (by omega) (by omega)
  go_wp2_with fail
  have H1 := Lib.hid (hI1.put (by omega) (by omega) (by omega) 1 (r1 : Int) (r0 : Int) (r1 : Int) 0 rfl)
  clear hI1 cc ff ww H0
  generalize v1.setCell ⟨W.heap.size + 1 + 1, 1, none⟩ (.int .i16 (r1 : Int)) = u1 at *
  rw [rounds_succ]
  go_wp2_with fail
  refine (H1.out.pick (by omega) (by omega) (by omega) (by omega) 100 (by omega)).mono ?_
  rintro e v2 ⟨r2, hr2, rfl, hI2⟩
  have cc : v2.cell? ⟨W.heap.size + 1 + 1, 2, none⟩ = some (.int .i16 0) := hI2.mix.cell 2 _ rfl
  have ff := hI2.mix.frz 2
  have ww : IntKind.i16.wrap (r2 : Int) = (r2 : Int) := wrap16_in _ (by omega) (by omega)
  go_wp2_with fail
  have H2 := Lib.hid (hI2.put (by omega) (by omega) (by omega) 2 (r2 : Int) (r0 : Int) (r1 : Int) (r2 : Int) rfl)
  clear hI2 cc ff ww H1
  generalize v2.setCell ⟨W.heap.size + 1 + 1, 2, none⟩ (.int .i16 (r2 : Int)) = u2 at *
  rw [rounds_succ]
  have d0 : u2.cell? ⟨W.heap.size, 0, none⟩ = some (.int .i16 0) := H2.out.res.cell 0 _ rfl
  have e0 : u2.cell? ⟨W.heap.size + 1 + 1, 0, none⟩ = some (.int .i16 (r0 : Int)) := H2.out.mix.cell 0 _ rfl
  have d1 : u2.cell? ⟨W.heap.size, 1, none⟩ = some (.int .i16 0) := H2.out.res.cell 1 _ rfl
  have e1 : u2.cell? ⟨W.heap.size + 1 + 1, 1, none⟩ = some (.int .i16 (r1 : Int)) := H2.out.mix.cell 1 _ rfl
  have d2 : u2.cell? ⟨W.heap.size, 2, none⟩ = some (.int .i16 0) := H2.out.res.cell 2 _ rfl
  have e2 : u2.cell? ⟨W.heap.size + 1 + 1, 2, none⟩ = some (.int .i16 (r2 : Int)) := H2.out.mix.cell 2 _ rfl
  have fr := H2.out.res.frz
  go_wp2_with fail
  exact bodyPost_ret (v := .agg #[.int .i16 (r0 : Int), .int .i16 (r1 : Int), .int .i16 (r2 : Int)]) (by simp [results, Try.results26, go_sem, d0, d1, d2]) rfl ⟨⟨(r0 : Int), (r1 : Int), (r2 : Int)⟩, rfl, by simp only; omega, by simp only; omega, by simp only; omega, ((H2.out.bel.setCell (p := ⟨_, 0, none⟩) (by simp) _).setCell (p := ⟨_, 1, none⟩) (by simp) _).setCell (p := ⟨_, 2, none⟩) (by simp) _⟩
end Go.Proofs.Ytgifakacnneleaa
