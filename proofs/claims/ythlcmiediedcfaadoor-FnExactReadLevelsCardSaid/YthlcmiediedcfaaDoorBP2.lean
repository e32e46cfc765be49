/-
Pairs of slabs beside each other, of the reference. Conditions: the square is valid; slices can be read.
-/
import Derived.Test.YthlcmiediedcfaaDoorBS3
set_option linter.unusedVariables false
set_option linter.unusedSimpArgs false
set_option maxRecDepth 100000
namespace Go.Proofs.YthlcmiediedcfaaDoor
open Go.RowKit
theorem sok_calls (b o : Nat) (w h : Int) (z : Value) (sl : List Slab) (W : World) (hq : SqIn W w h z sl) (ha : Sq.at_ W b o w h z) :
    Calls Tryd.prog 69 #[.pointer (some ⟨b, o, none⟩)] W fun e w' => e = .returned (.bool (sqOk w h sl)) ∧ Below W.heap.size W w' := by
  have ql := Lib.hid (lay_calls b o w h hq.w0 hq.w1 hq.h0 hq.h1 sl hq.ok z W hq.sl ha)
  clear hq ha
  generalize sqOk w h sl = E at *
  go_enter Tryd.func69, Tryd.ntmps69
  go_wp2_with fail
  refine ql.out.mono ?_
  rintro e wa ⟨g, rfl, hgl, hgr, hb1⟩
  have HB5 := Lib.hid (hb1.alloc hb1.size (.cells Tryd.zeroCells150 150))
  have K5 := Lib.hid (Bk.new wa 150 Tryd.zeroCells150 wa.heap.size rfl)
  have hs5 := Lib.hid (show W.heap.size ≤ wa.heap.size from hb1.size)
  have hglH := Lib.hid hgl
  clear hb1 hgl hgr
  go_wp2_with (refine wpList_store_bk rfl 150 (.tmp 3) (.tmp 8) rfl _ (gcells g) rfl rfl _ _ K5.out (by rw [zsize, gcells_size, hglH.out]) (ginfo _ hglH.out) (gcells_one _) ?_)
  intro w6 k6 G6
  have HB6 := Lib.hid (HB5.out.grown G6 HB5.out.size (fun j hj => by injection hj with hj; have := hs5.out; omega))
  clear k6 G6
  go_wp2_with fail
  go_ret
  exact ⟨rfl, HB6.out⟩
end Go.Proofs.YthlcmiediedcfaaDoor
