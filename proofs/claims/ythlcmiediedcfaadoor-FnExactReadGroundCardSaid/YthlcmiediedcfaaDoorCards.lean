/-
  DERIVED. GIVEN WITH THE SEED: THE CARDS: each row of YthlcmiediedcfaaDoorRows.lean that lists a variable, with what it lists TIED to the program's text (the seventh form; the later family's looks); each row that meets fmt, with fmt's text TOLD by the authors' own Lean function (tested against real Go, not proved from fmt's source: count such statements apart). THE CARD IS WHAT COUNTS. Prove the row's statement (the work); the ties are given (YthlcmiediedcfaaDoorTie.lean); close each card by the builder's one call (the guide's Derived/Test/ToyasCard.lean, 'card_holds'). Laid BY PROGRAM, IN A SANDBOX (cutbox-door.mjs). By AI agents, Wed Nov 11 2026. No macro, syntax, notation, axiom, sorry.
-/
import Derived.Test.YthlcmiediedcfaaDoorRows
import GoSem.ClaimSeven
namespace Go.Proofs.YthlcmiediedcfaaDoor
namespace Rows

/-- THE TIED CARD OF 'laws.FnExactRowsText'. -/
def fnExactRowsTextCard : Claim7 := { stood := { row := fnExactRowsTextRow, standIns := [], harness := (true, "77a000e7cf8eb5c4471a78d037e0a0094bbf73e138addd8655c74be6b7f2cafc"), looks := true }, kinds := [], alts := [], laidByText := true, laidKinds := [.data, .data, .data], laidTests := true, laidLooks := .later }
def FnExactRowsTextCardSaid : Prop := Claim7.holds Tryd.pinned (.plain (OpenSpec.ofChange fnExactRowsTextSpec)) fnExactRowsTextCard

/-- THE TIED CARD OF 'laws.FnExactLevelsText'. -/
def fnExactLevelsTextCard : Claim7 := { stood := { row := fnExactLevelsTextRow, standIns := [], harness := (true, "77a000e7cf8eb5c4471a78d037e0a0094bbf73e138addd8655c74be6b7f2cafc"), looks := true }, kinds := [], alts := [], laidByText := true, laidKinds := [.data, .data, .data], laidTests := true, laidLooks := .later }
def FnExactLevelsTextCardSaid : Prop := Claim7.holds Tryd.pinned (.plain (OpenSpec.ofChange fnExactLevelsTextSpec)) fnExactLevelsTextCard

/-- THE TIED CARD OF 'laws.FnExactGroundText'. -/
def fnExactGroundTextCard : Claim7 := { stood := { row := fnExactGroundTextRow, standIns := [], harness := (true, "77a000e7cf8eb5c4471a78d037e0a0094bbf73e138addd8655c74be6b7f2cafc"), looks := true }, kinds := [], alts := [], laidByText := true, laidKinds := [.data, .data, .data], laidTests := true, laidLooks := .later }
def FnExactGroundTextCardSaid : Prop := Claim7.holds Tryd.pinned (.plain (OpenSpec.ofChange fnExactGroundTextSpec)) fnExactGroundTextCard

/-- THE TIED CARD OF 'laws.FnExactReadRows'. -/
def fnExactReadRowsCard : Claim7 := { stood := { row := fnExactReadRowsRow, standIns := [], harness := (true, "77a000e7cf8eb5c4471a78d037e0a0094bbf73e138addd8655c74be6b7f2cafc"), looks := true }, kinds := [], alts := [], laidByText := true, laidKinds := [.data, .data, .data, .data, .sentinel, .sentinel, .pinned], laidTests := true, laidLooks := .later }
def FnExactReadRowsCardSaid : Prop := Claim7.holds Tryd.pinned (.plain (OpenSpec.ofChange fnExactReadRowsSpec)) fnExactReadRowsCard

/-- THE TIED CARD OF 'laws.FnExactReadLevels'. -/
def fnExactReadLevelsCard : Claim7 := { stood := { row := fnExactReadLevelsRow, standIns := [], harness := (true, "77a000e7cf8eb5c4471a78d037e0a0094bbf73e138addd8655c74be6b7f2cafc"), looks := true }, kinds := [], alts := [], laidByText := true, laidKinds := [.data, .data, .data, .sentinel, .sentinel, .listed, .data], laidTests := true, laidLooks := .later }
def FnExactReadLevelsCardSaid : Prop := Claim7.holds Tryd.pinned (.plain (OpenSpec.ofChange fnExactReadLevelsSpec)) fnExactReadLevelsCard

/-- THE TIED CARD OF 'laws.FnExactReadGround'. -/
def fnExactReadGroundCard : Claim7 := { stood := { row := fnExactReadGroundRow, standIns := [], harness := (true, "77a000e7cf8eb5c4471a78d037e0a0094bbf73e138addd8655c74be6b7f2cafc"), looks := true }, kinds := [], alts := [], laidByText := true, laidKinds := [.data, .data, .data, .data, .sentinel, .sentinel, .pinned], laidTests := true, laidLooks := .later }
def FnExactReadGroundCardSaid : Prop := Claim7.holds Tryd.pinned (.plain (OpenSpec.ofChange fnExactReadGroundSpec)) fnExactReadGroundCard

/-- THE SECOND FORM's CARD OF 'laws.FnExactRowsText'. -/
def fnExactRowsTextUptoCard : Claim7 := { stood := { row := fnExactRowsTextUptoRow, standIns := [], harness := (true, "77a000e7cf8eb5c4471a78d037e0a0094bbf73e138addd8655c74be6b7f2cafc"), looks := true }, kinds := [], alts := [], laidByText := true, laidKinds := [.data, .data, .data], laidTests := true, laidLooks := .later }
def FnExactRowsTextUptoCardSaid : Prop := Claim7.holds Tryd.pinned (.plain (OpenSpec.upto fnExactRowsTextSpec)) fnExactRowsTextUptoCard

/-- THE SECOND FORM's CARD OF 'laws.FnExactLevelsText'. -/
def fnExactLevelsTextUptoCard : Claim7 := { stood := { row := fnExactLevelsTextUptoRow, standIns := [], harness := (true, "77a000e7cf8eb5c4471a78d037e0a0094bbf73e138addd8655c74be6b7f2cafc"), looks := true }, kinds := [], alts := [], laidByText := true, laidKinds := [.data, .data, .data], laidTests := true, laidLooks := .later }
def FnExactLevelsTextUptoCardSaid : Prop := Claim7.holds Tryd.pinned (.plain (OpenSpec.upto fnExactLevelsTextSpec)) fnExactLevelsTextUptoCard

/-- THE SECOND FORM's CARD OF 'laws.FnExactGroundText'. -/
def fnExactGroundTextUptoCard : Claim7 := { stood := { row := fnExactGroundTextUptoRow, standIns := [], harness := (true, "77a000e7cf8eb5c4471a78d037e0a0094bbf73e138addd8655c74be6b7f2cafc"), looks := true }, kinds := [], alts := [], laidByText := true, laidKinds := [.data, .data, .data], laidTests := true, laidLooks := .later }
def FnExactGroundTextUptoCardSaid : Prop := Claim7.holds Tryd.pinned (.plain (OpenSpec.upto fnExactGroundTextSpec)) fnExactGroundTextUptoCard

/-- THE SECOND FORM's CARD OF 'laws.FnExactReadRows'. -/
def fnExactReadRowsUptoCard : Claim7 := { stood := { row := fnExactReadRowsUptoRow, standIns := [], harness := (true, "77a000e7cf8eb5c4471a78d037e0a0094bbf73e138addd8655c74be6b7f2cafc"), looks := true }, kinds := [], alts := [], laidByText := true, laidKinds := [.data, .data, .data, .data, .sentinel, .sentinel, .pinned], laidTests := true, laidLooks := .later }
def FnExactReadRowsUptoCardSaid : Prop := Claim7.holds Tryd.pinned (.plain (OpenSpec.upto fnExactReadRowsSpec)) fnExactReadRowsUptoCard

/-- THE SECOND FORM's CARD OF 'laws.FnExactReadLevels'. -/
def fnExactReadLevelsUptoCard : Claim7 := { stood := { row := fnExactReadLevelsUptoRow, standIns := [], harness := (true, "77a000e7cf8eb5c4471a78d037e0a0094bbf73e138addd8655c74be6b7f2cafc"), looks := true }, kinds := [], alts := [], laidByText := true, laidKinds := [.data, .data, .data, .sentinel, .sentinel, .listed, .data], laidTests := true, laidLooks := .later }
def FnExactReadLevelsUptoCardSaid : Prop := Claim7.holds Tryd.pinned (.plain (OpenSpec.upto fnExactReadLevelsSpec)) fnExactReadLevelsUptoCard

/-- THE SECOND FORM's CARD OF 'laws.FnExactReadGround'. -/
def fnExactReadGroundUptoCard : Claim7 := { stood := { row := fnExactReadGroundUptoRow, standIns := [], harness := (true, "77a000e7cf8eb5c4471a78d037e0a0094bbf73e138addd8655c74be6b7f2cafc"), looks := true }, kinds := [], alts := [], laidByText := true, laidKinds := [.data, .data, .data, .data, .sentinel, .sentinel, .pinned], laidTests := true, laidLooks := .later }
def FnExactReadGroundUptoCardSaid : Prop := Claim7.holds Tryd.pinned (.plain (OpenSpec.upto fnExactReadGroundSpec)) fnExactReadGroundUptoCard
end Rows
end Go.Proofs.YthlcmiediedcfaaDoor
