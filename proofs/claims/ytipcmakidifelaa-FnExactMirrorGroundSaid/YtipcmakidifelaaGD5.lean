/-
Grounds: the points beside a point, of both. Conditions: numbers are of their kinds.
-/
import Derived.Test.YtipcmakidifelaaGD2
import Derived.Test.YtipcmakidifelaaDFC
import Derived.Test.YtipcmakidifelaaSQ4
set_option linter.unusedVariables false
set_option linter.unusedSimpArgs false
set_option maxRecDepth 100000
namespace Go.Proofs.Ytipcmakidifelaa
open Go.RowKit
theorem around1_calls (w h : Int) (w0 : -128 ≤ w) (w1 : w ≤ 127) (h0 : -128 ≤ h) (h1 : h ≤ 127) (hs : List Int) (hl : hs.length = 81) (z : Value) (g : Nat) (T : TypeId) (p : Cell) (hp : p.ok) (W : World) (hg : Bk W g T (gdA w h hs z)) :
    Calls Try.prog 102 #[p.v, .pointer (some ⟨g, 0, none⟩)] W fun e w' => e = .returned (.bool (!gpB w h p)) ∧ Below W.heap.size W w' := by
  have HB := Lib.hid ((Below.refl W.heap.size W).alloc (Nat.le_refl _) (.cells #[.int .i8 p.x, .int .i8 p.y] 38))
  have qp := Lib.hid (fun W' => isPoint_calls w h w0 w1 h0 h1 hs hl z p hp W')
  have ld := load_gd hl (hg.alloc (.cells #[.int .i8 p.x, .int .i8 p.y] 38))
  clear hg
  unfold Cell.v at *
  go_enter Try.func102, Try.ntmps102
  go_wp2_with (refine wpList_load_w rfl 36 (.tmp 1) rfl _ rfl _ ld ?_)
  refine (qp.out _).mono ?_
  rintro e w1 ⟨rfl, hb1⟩
  go_wp2_with fail
  go_ret
  exact ⟨rfl, ext_trans HB.out hb1⟩
theorem four_ok {p : Cell} (x0 : 0 ≤ p.x) (x1 : p.x ≤ 20) (y0 : 0 ≤ p.y) (y1 : p.y ≤ 20) : ∀ q ∈ four p, q.ok := by
  intro q hq
  simp only [four, List.mem_cons, List.not_mem_nil, or_false] at hq
  rcases hq with rfl | rfl | rfl | rfl
  all_goals (constructor <;> (try dsimp only) <;> omega)
theorem around_eq (w h : Int) (p : Cell) : ((four p).filter fun x => !(!gpB w h x)) = aroundL w h p := by
  unfold aroundL
  congr 1
  funext x
  simp
theorem around_calls (w h : Int) (w0 : -128 ≤ w) (w1 : w ≤ 127) (h0 : -128 ≤ h) (h1 : h ≤ 127) (hs : List Int) (hl : hs.length = 81) (z : Value) (p : Cell) (x0 : 0 ≤ p.x) (x1 : p.x ≤ 20) (y0 : 0 ≤ p.y) (y1 : p.y ≤ 20) (W : World) :
    Calls Try.prog 88 #[.agg (gdA w h hs z), p.v] W (RetRowC W 38 Cell.c 2 (aroundL w h p)) := by
  have hB1 := ext_alloc ((Below.refl W.heap.size W).alloc (Nat.le_refl _) (.cells (gdA w h hs z) 36)) (.cells #[.int .i8 p.x, .int .i8 p.y] 38)
  have hB := Lib.hid (ext_alloc hB1 (.cells #[.int .i8 p.x, .int .i8 (p.y - 1), .int .i8 (p.x - 1), .int .i8 p.y, .int .i8 (p.x + 1), .int .i8 p.y, .int .i8 p.x, .int .i8 (p.y + 1)] 38))
  have K := Lib.hid (((Bk.new W 36 (gdA w h hs z) W.heap.size rfl).alloc (.cells #[.int .i8 p.x, .int .i8 p.y] 38)).alloc (.cells #[.int .i8 p.x, .int .i8 (p.y - 1), .int .i8 (p.x - 1), .int .i8 p.y, .int .i8 (p.x + 1), .int .i8 p.y, .int .i8 p.x, .int .i8 (p.y + 1)] 38))
  have hO := Lib.hid (show Own (((W.alloc (.cells (gdA w h hs z) 36)).alloc (.cells #[.int .i8 p.x, .int .i8 p.y] 38)).alloc (.cells #[.int .i8 p.x, .int .i8 (p.y - 1), .int .i8 (p.x - 1), .int .i8 p.y, .int .i8 (p.x + 1), .int .i8 p.y, .int .i8 p.x, .int .i8 (p.y + 1)] 38)) (W.heap.size + 1 + 1) 38 Cell.c 2 (.slice (some ⟨W.heap.size + 1 + 1, 0, none⟩) (four p).length 4) (four p) from by
    have := World.ownsRow_lit (base := W.heap.size + 1 + 1) (e := 38) (size := 2) ((W.alloc (.cells (gdA w h hs z) 36)).alloc (.cells #[.int .i8 p.x, .int .i8 p.y] 38)) #[.int .i8 p.x, .int .i8 (p.y - 1), .int .i8 (p.x - 1), .int .i8 p.y, .int .i8 (p.x + 1), .int .i8 p.y, .int .i8 p.x, .int .i8 (p.y + 1)] 4 (by simp) (by simp [maxLen]) (by simp)
    refine ⟨?_⟩
    simpa [four, Cell.c] using this)
  have m1 : IntKind.i8.wrap (p.y - 1) = p.y - 1 := wrap8In _ (by omega) (by omega)
  have m2 : IntKind.i8.wrap (p.x - 1) = p.x - 1 := wrap8In _ (by omega) (by omega)
  have m3 : IntKind.i8.wrap (p.x + 1) = p.x + 1 := wrap8In _ (by omega) (by omega)
  have m4 : IntKind.i8.wrap (p.y + 1) = p.y + 1 := wrap8In _ (by omega) (by omega)
  have hfo := four_ok x0 x1 y0 y1
  have eg := enters_of Try.func102 (by kernel_rfl) rfl
  have qd := Lib.hid (deleteFuncCell (four p) (W.heap.size + 1 + 1) 4 (W.heap.size + 1 + 1) _ hO.out (by simp) 102 #[.pointer (some ⟨W.heap.size, 0, none⟩)] (fun x => !gpB w h x) eg (fun x hx W' hG => around1_calls w h w0 w1 h0 h1 hs hl z W.heap.size _ x (hfo x hx) W' (K.out.grown hG (by omega))))
  have hE := Lib.hid (around_eq w h p)
  clear hfo hB1
  unfold Cell.v at *
  go_enter Try.func88, Try.ntmps88
  go_wp2_with fail
  refine qd.out.mono ?_
  rintro e w1 ⟨rfl, hO1, hG1⟩
  rw [hE.out] at hO1
  have HO1 := Lib.hid hO1
  have HB1 := Lib.hid (hB.out.grown hG1 hB.out.size (fun j hj => by injection hj with hj; omega))
  clear hO1 hG1
  rw [hE.out]
  go_wp2_with fail
  go_ret
  exact ⟨_, rfl, HO1.out.more (by omega), HB1.out⟩
end Go.Proofs.Ytipcmakidifelaa
