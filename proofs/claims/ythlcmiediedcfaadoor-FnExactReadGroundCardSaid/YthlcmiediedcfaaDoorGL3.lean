/-
What the laws' regions find: a ground whole in a block, a cell in another. Nothing is proved here of the program itself.
-/
import Derived.Test.YthlcmiediedcfaaDoorGL2
set_option linter.unusedVariables false
set_option linter.unusedSimpArgs false
set_option maxRecDepth 100000
namespace Go.Proofs.YthlcmiediedcfaaDoor
open Go.RowKit
theorem load_lg {W : World} {T' : TypeId} {g : Nat} {w h : Int} {hs : List Int} {z : Value} (hl : hs.length = 81) (hb : Bk W g T' (gdA w h hs z)) : (loadVar 49 ⟨g, 0, none⟩).run Tryd.prog W = .ok (.agg (gdA w h hs z)) W :=
  run_loadVar_any hb (by kernel_rfl) (by rw [gdA_size _ _ _ _ hl]; kernel_rfl)
theorem zG_size : Tryd.zeroCells54.size = 84 := by rw [zeroG]; exact gdA_size _ _ _ _ z81_len
theorem gdA_zero (w h : Int) (hs : List Int) (hl : hs.length = 81) (z : Value) : (writeAt Tryd.zeroCells54.toList 0 (gdA w h hs z).toList).toArray = gdA w h hs z := by
  rw [zeroG]
  exact gdA_all _ _ _ _ _ _ z81_len hl _ _
abbrev LwS (W0 : World) (b c : Nat) (gd : Array Value) (p : Cell) (w' : World) : Prop :=
  Below W0.heap.size W0 w' ∧ (loadVar 49 ⟨b, 0, none⟩).run Tryd.prog w' = .ok (.agg gd) w' ∧ w'.cell? ⟨c, 0, none⟩ = some (.int .i8 p.x) ∧ w'.cell? ⟨c, 1, none⟩ = some (.int .i8 p.y)
theorem LwS.first {W0 : World} {b c : Nat} {w h : Int} {hs : List Int} {z : Value} {p : Cell} {T T' : TypeId} (hl : hs.length = 81) (hb : Bk W0 b T (gdA w h hs z)) (hc : Bk W0 c T' #[.int .i8 p.x, .int .i8 p.y]) (w' : World) (k : Below W0.heap.size W0 w') : LwS W0 b c (gdA w h hs z) p w' :=
  ⟨k, load_lg hl (hb.ext k), (hc.ext k).cell 0 _ rfl, (hc.ext k).cell 1 _ rfl⟩
abbrev LwX (W0 : World) (b c : Nat) (gd : Array Value) (p : Cell) (w' : World) : Prop :=
  Below W0.heap.size W0 w' ∧ (loadVar 54 ⟨b, 0, none⟩).run Tryd.prog w' = .ok (.agg gd) w' ∧ w'.cell? ⟨c, 0, none⟩ = some (.int .i8 p.x) ∧ w'.cell? ⟨c, 1, none⟩ = some (.int .i8 p.y)
theorem LwX.first {W0 : World} {b c : Nat} {w h : Int} {hs : List Int} {z : Value} {p : Cell} {T T' : TypeId} (hl : hs.length = 81) (hb : Bk W0 b T (gdA w h hs z)) (hc : Bk W0 c T' #[.int .i8 p.x, .int .i8 p.y]) (w' : World) (k : Below W0.heap.size W0 w') : LwX W0 b c (gdA w h hs z) p w' :=
  ⟨k, load_gd hl (hb.ext k), (hc.ext k).cell 0 _ rfl, (hc.ext k).cell 1 _ rfl⟩
abbrev LwG (W0 : World) (b c : Nat) (gd ge : Array Value) (w' : World) : Prop :=
  Below W0.heap.size W0 w' ∧ (loadVar 54 ⟨b, 0, none⟩).run Tryd.prog w' = .ok (.agg gd) w' ∧ (loadVar 49 ⟨c, 0, none⟩).run Tryd.prog w' = .ok (.agg ge) w'
theorem LwG.first {W0 : World} {b c : Nat} {w h w2 h2 : Int} {hs hs2 : List Int} {z z2 : Value} {T T' : TypeId} (hl : hs.length = 81) (hl2 : hs2.length = 81) (hb : Bk W0 b T (gdA w h hs z)) (hc : Bk W0 c T' (gdA w2 h2 hs2 z2)) (w' : World) (k : Below W0.heap.size W0 w') : LwG W0 b c (gdA w h hs z) (gdA w2 h2 hs2 z2) w' :=
  ⟨k, load_gd hl (hb.ext k), load_lg hl2 (hc.ext k)⟩
end Go.Proofs.YthlcmiediedcfaaDoor
