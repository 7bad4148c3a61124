/-
  DERIVED. GIVEN WITH THE SEED: THE CARDS: each row of YtahfmeopecmpmaaDoorRows.lean that lists a variable, with what it lists TIED to the program's text (the seventh form; the later family's looks); each row that meets fmt, with fmt's text TOLD by the authors' own Lean function (tested against real Go, not proved from fmt's source: count such statements apart). THE CARD IS WHAT COUNTS. Prove the row's statement (the work); the ties are given (YtahfmeopecmpmaaDoorTie.lean); close each card by the builder's one call (the guide's Derived/Test/ToyasCard.lean, 'card_holds'). Laid BY PROGRAM, IN A SANDBOX (cutbox-door.mjs). By AI agents, Wed Nov 11 2026. No macro, syntax, notation, axiom, sorry.
-/
import Derived.Test.YtahfmeopecmpmaaDoorRows
import GoSem.ClaimSeven
namespace Go.Proofs.YtahfmeopecmpmaaDoor
namespace Rows

/-- THE TIED CARD OF 'groovelaw51.DigestSums'. -/
def digestSumsCard : Claim7 := { stood := { row := digestSumsRow, standIns := [], harness := (true, "44907872240a5bf2af879cb2068a6a8c75b500a71d132f606eefdb6f41c30040"), looks := false }, kinds := [], alts := [], laidByText := true, laidKinds := [.data, .pinned], laidTests := true, laidLooks := .later }
def DigestSumsCardSaid : Prop := Claim7.holds Tryd.pinned (.plain (OpenSpec.ofChange digestSumsSpec)) digestSumsCard

/-- THE TIED CARD OF 'groovelaw51.DigestLinear'. -/
def digestLinearCard : Claim7 := { stood := { row := digestLinearRow, standIns := [], harness := (true, "44907872240a5bf2af879cb2068a6a8c75b500a71d132f606eefdb6f41c30040"), looks := false }, kinds := [], alts := [], laidByText := true, laidKinds := [.data, .pinned], laidTests := true, laidLooks := .later }
def DigestLinearCardSaid : Prop := Claim7.holds Tryd.pinned (.plain (OpenSpec.ofChange digestLinearSpec)) digestLinearCard

/-- THE TIED CARD OF 'groovelaw51.DigestDivisions'. -/
def digestDivisionsCard : Claim7 := { stood := { row := digestDivisionsRow, standIns := [], harness := (true, "44907872240a5bf2af879cb2068a6a8c75b500a71d132f606eefdb6f41c30040"), looks := false }, kinds := [], alts := [], laidByText := true, laidKinds := [.data, .pinned], laidTests := true, laidLooks := .later }
def DigestDivisionsCardSaid : Prop := Claim7.holds Tryd.pinned (.plain (OpenSpec.ofChange digestDivisionsSpec)) digestDivisionsCard

/-- THE TIED CARD OF 'groovelaw51.DigestVerified'. -/
def digestVerifiedCard : Claim7 := { stood := { row := digestVerifiedRow, standIns := [], harness := (true, "44907872240a5bf2af879cb2068a6a8c75b500a71d132f606eefdb6f41c30040"), looks := false }, kinds := [], alts := [], laidByText := true, laidKinds := [.data, .pinned], laidTests := true, laidLooks := .later }
def DigestVerifiedCardSaid : Prop := Claim7.holds Tryd.pinned (.plain (OpenSpec.ofChange digestVerifiedSpec)) digestVerifiedCard

/-- THE TIED CARD OF 'groovelaw51.DigestBursts'. -/
def digestBurstsCard : Claim7 := { stood := { row := digestBurstsRow, standIns := [], harness := (true, "44907872240a5bf2af879cb2068a6a8c75b500a71d132f606eefdb6f41c30040"), looks := false }, kinds := [], alts := [], laidByText := true, laidKinds := [.data, .pinned], laidTests := true, laidLooks := .later }
def DigestBurstsCardSaid : Prop := Claim7.holds Tryd.pinned (.plain (OpenSpec.ofChange digestBurstsSpec)) digestBurstsCard

/-- THE TIED CARD OF 'groovelaw51.DigestOrders'. -/
def digestOrdersCard : Claim7 := { stood := { row := digestOrdersRow, standIns := [], harness := (true, "44907872240a5bf2af879cb2068a6a8c75b500a71d132f606eefdb6f41c30040"), looks := false }, kinds := [], alts := [], laidByText := true, laidKinds := [.data, .pinned], laidTests := true, laidLooks := .later }
def DigestOrdersCardSaid : Prop := Claim7.holds Tryd.pinned (.plain (OpenSpec.ofChange digestOrdersSpec)) digestOrdersCard

/-- THE TIED CARD OF 'groovelaw51.DigestProducts'. -/
def digestProductsCard : Claim7 := { stood := { row := digestProductsRow, standIns := [], harness := (true, "44907872240a5bf2af879cb2068a6a8c75b500a71d132f606eefdb6f41c30040"), looks := false }, kinds := [], alts := [], laidByText := true, laidKinds := [.data, .pinned], laidTests := true, laidLooks := .later }
def DigestProductsCardSaid : Prop := Claim7.holds Tryd.pinned (.plain (OpenSpec.ofChange digestProductsSpec)) digestProductsCard

/-- THE TIED CARD OF 'groovelaw51.DigestDivides'. -/
def digestDividesCard : Claim7 := { stood := { row := digestDividesRow, standIns := [], harness := (true, "44907872240a5bf2af879cb2068a6a8c75b500a71d132f606eefdb6f41c30040"), looks := false }, kinds := [], alts := [], laidByText := true, laidKinds := [.data, .pinned], laidTests := true, laidLooks := .later }
def DigestDividesCardSaid : Prop := Claim7.holds Tryd.pinned (.plain (OpenSpec.ofChange digestDividesSpec)) digestDividesCard

/-- THE SECOND FORM's CARD OF 'groovelaw51.DigestSums'. -/
def digestSumsUptoCard : Claim7 := { stood := { row := digestSumsUptoRow, standIns := [], harness := (true, "44907872240a5bf2af879cb2068a6a8c75b500a71d132f606eefdb6f41c30040"), looks := false }, kinds := [], alts := [], laidByText := true, laidKinds := [.data, .pinned], laidTests := true, laidLooks := .later }
def DigestSumsUptoCardSaid : Prop := Claim7.holds Tryd.pinned (.plain (OpenSpec.upto digestSumsSpec)) digestSumsUptoCard

/-- THE SECOND FORM's CARD OF 'groovelaw51.DigestLinear'. -/
def digestLinearUptoCard : Claim7 := { stood := { row := digestLinearUptoRow, standIns := [], harness := (true, "44907872240a5bf2af879cb2068a6a8c75b500a71d132f606eefdb6f41c30040"), looks := false }, kinds := [], alts := [], laidByText := true, laidKinds := [.data, .pinned], laidTests := true, laidLooks := .later }
def DigestLinearUptoCardSaid : Prop := Claim7.holds Tryd.pinned (.plain (OpenSpec.upto digestLinearSpec)) digestLinearUptoCard

/-- THE SECOND FORM's CARD OF 'groovelaw51.DigestDivisions'. -/
def digestDivisionsUptoCard : Claim7 := { stood := { row := digestDivisionsUptoRow, standIns := [], harness := (true, "44907872240a5bf2af879cb2068a6a8c75b500a71d132f606eefdb6f41c30040"), looks := false }, kinds := [], alts := [], laidByText := true, laidKinds := [.data, .pinned], laidTests := true, laidLooks := .later }
def DigestDivisionsUptoCardSaid : Prop := Claim7.holds Tryd.pinned (.plain (OpenSpec.upto digestDivisionsSpec)) digestDivisionsUptoCard

/-- THE SECOND FORM's CARD OF 'groovelaw51.DigestVerified'. -/
def digestVerifiedUptoCard : Claim7 := { stood := { row := digestVerifiedUptoRow, standIns := [], harness := (true, "44907872240a5bf2af879cb2068a6a8c75b500a71d132f606eefdb6f41c30040"), looks := false }, kinds := [], alts := [], laidByText := true, laidKinds := [.data, .pinned], laidTests := true, laidLooks := .later }
def DigestVerifiedUptoCardSaid : Prop := Claim7.holds Tryd.pinned (.plain (OpenSpec.upto digestVerifiedSpec)) digestVerifiedUptoCard

/-- THE SECOND FORM's CARD OF 'groovelaw51.DigestBursts'. -/
def digestBurstsUptoCard : Claim7 := { stood := { row := digestBurstsUptoRow, standIns := [], harness := (true, "44907872240a5bf2af879cb2068a6a8c75b500a71d132f606eefdb6f41c30040"), looks := false }, kinds := [], alts := [], laidByText := true, laidKinds := [.data, .pinned], laidTests := true, laidLooks := .later }
def DigestBurstsUptoCardSaid : Prop := Claim7.holds Tryd.pinned (.plain (OpenSpec.upto digestBurstsSpec)) digestBurstsUptoCard

/-- THE SECOND FORM's CARD OF 'groovelaw51.DigestOrders'. -/
def digestOrdersUptoCard : Claim7 := { stood := { row := digestOrdersUptoRow, standIns := [], harness := (true, "44907872240a5bf2af879cb2068a6a8c75b500a71d132f606eefdb6f41c30040"), looks := false }, kinds := [], alts := [], laidByText := true, laidKinds := [.data, .pinned], laidTests := true, laidLooks := .later }
def DigestOrdersUptoCardSaid : Prop := Claim7.holds Tryd.pinned (.plain (OpenSpec.upto digestOrdersSpec)) digestOrdersUptoCard

/-- THE SECOND FORM's CARD OF 'groovelaw51.DigestProducts'. -/
def digestProductsUptoCard : Claim7 := { stood := { row := digestProductsUptoRow, standIns := [], harness := (true, "44907872240a5bf2af879cb2068a6a8c75b500a71d132f606eefdb6f41c30040"), looks := false }, kinds := [], alts := [], laidByText := true, laidKinds := [.data, .pinned], laidTests := true, laidLooks := .later }
def DigestProductsUptoCardSaid : Prop := Claim7.holds Tryd.pinned (.plain (OpenSpec.upto digestProductsSpec)) digestProductsUptoCard

/-- THE SECOND FORM's CARD OF 'groovelaw51.DigestDivides'. -/
def digestDividesUptoCard : Claim7 := { stood := { row := digestDividesUptoRow, standIns := [], harness := (true, "44907872240a5bf2af879cb2068a6a8c75b500a71d132f606eefdb6f41c30040"), looks := false }, kinds := [], alts := [], laidByText := true, laidKinds := [.data, .pinned], laidTests := true, laidLooks := .later }
def DigestDividesUptoCardSaid : Prop := Claim7.holds Tryd.pinned (.plain (OpenSpec.upto digestDividesSpec)) digestDividesUptoCard
end Rows
end Go.Proofs.YtahfmeopecmpmaaDoor
