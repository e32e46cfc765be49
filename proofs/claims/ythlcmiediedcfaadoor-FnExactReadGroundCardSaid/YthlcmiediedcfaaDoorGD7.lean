/-
Grounds: the lowest point beside a point, and where water runs, of the program. Conditions: the ground is valid, the point is a point.
-/
import Derived.Test.YthlcmiediedcfaaDoorGD6
set_option linter.unusedVariables false
set_option linter.unusedSimpArgs false
set_option maxRecDepth 100000
namespace Go.Proofs.YthlcmiediedcfaaDoor
open Go.RowKit
def lowN (hs : List Int) (at_ : Cell) (xs : List Cell) (k : Nat) : Cell := (xs.take k).foldl (fun b c => if htL hs c < htL hs b then c else b) at_
theorem lowN_succ (hs : List Int) (at_ : Cell) (xs : List Cell) (k : Nat) (hk : k < xs.length) : lowN hs at_ xs (k + 1) = if htL hs xs[k] < htL hs (lowN hs at_ xs k) then xs[k] else lowN hs at_ xs k := by
  unfold lowN
  rw [List.take_succ_eq_append_getElem hk, List.foldl_append]
  rfl
def lowL (w h : Int) (hs : List Int) (at_ : Cell) : Cell := lowN hs at_ (aroundL w h at_) (aroundL w h at_).length
theorem lowN_pt {w h : Int} {hs : List Int} {at_ : Cell} (ha : gpB w h at_ = true) : ∀ k, k ≤ (aroundL w h at_).length → gpB w h (lowN hs at_ (aroundL w h at_) k) = true
  | 0, _ => ha
  | k + 1, hk => by
    rw [lowN_succ _ _ _ _ (by omega)]
    split
    · exact around_pt (List.getElem_mem _)
    · exact lowN_pt ha k (by omega)
theorem pt_nat {w h : Int} {c : Cell} (hw : w ≤ 9) (hh : h ≤ 9) (hc : gpB w h c = true) : ∃ a b : Nat, a < 9 ∧ b < 9 ∧ c = ⟨(a : Int), (b : Int)⟩ := by
  obtain ⟨x, y⟩ := c
  obtain ⟨h1, h2, h3, h4⟩ := gpB_true.1 hc
  simp only at h1 h2 h3 h4
  refine ⟨x.toNat, y.toNat, by omega, by omega, ?_⟩
  congr 1 <;> omega
theorem pt_ok {w h : Int} {c : Cell} (hw : w ≤ 9) (hh : h ≤ 9) (hc : gpB w h c = true) : c.ok := by
  obtain ⟨h1, h2, h3, h4⟩ := gpB_true.1 hc
  constructor <;> omega
theorem heightP_calls {w h : Int} {hs : List Int} {gl : List Cell} (ok : GOk w h hs gl) (hl : hs.length = 81) (z : Value) (p : Cell) (hp : gpB w h p = true) (W : World) :
    Calls Tryd.prog 58 #[.agg (gdA w h hs z), .agg #[.int .i8 p.x, .int .i8 p.y]] W fun e w' => e = .returned (.int .i64 (htL hs p)) ∧ Below W.heap.size W w' := by
  have hb := ok.ht p hp
  obtain ⟨a, b, ha, hb2, rfl⟩ := pt_nat ok.w1 ok.h1 hp
  exact height_calls w h hs hl z a b ha hb2 (by omega) W
end Go.Proofs.YthlcmiediedcfaaDoor
