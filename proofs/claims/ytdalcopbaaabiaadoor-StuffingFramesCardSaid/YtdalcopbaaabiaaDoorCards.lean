/-
  DERIVED. GIVEN WITH THE SEED: THE CARDS: each row of YtdalcopbaaabiaaDoorRows.lean that lists a variable, with what it lists TIED to the program's text (the seventh form; the later family's looks); each row that meets fmt, with fmt's text TOLD by the authors' own Lean function (tested against real Go, not proved from fmt's source: count such statements apart). THE CARD IS WHAT COUNTS. Prove the row's statement (the work); the ties are given (YtdalcopbaaabiaaDoorTie.lean); close each card by the builder's one call (the guide's Derived/Test/ToyasCard.lean, 'card_holds'). Laid BY PROGRAM, IN A SANDBOX (cutbox-door.mjs). By AI agents, Wed Nov 11 2026. No macro, syntax, notation, axiom, sorry.
-/
import Derived.Test.YtdalcopbaaabiaaDoorRows
import GoSem.ClaimSeven
namespace Go.Proofs.YtdalcopbaaabiaaDoor
namespace Rows

/-- THE TIED CARD OF 'groovelaw30.StuffingLengths'. -/
def stuffingLengthsCard : Claim7 := { stood := { row := stuffingLengthsRow, standIns := [], harness := (true, "f4ba5b1a3369740023ae9a429b6f174994e87e3586ba13f5fcb9b0c028f35112"), looks := false }, kinds := [], alts := [], laidByText := true, laidKinds := [.data, .pinned], laidTests := true, laidLooks := .later }
def StuffingLengthsCardSaid : Prop := Claim7.holds Tryd.pinned (.plain (OpenSpec.ofChange stuffingLengthsSpec)) stuffingLengthsCard

/-- THE TIED CARD OF 'groovelaw30.StuffingBegins'. -/
def stuffingBeginsCard : Claim7 := { stood := { row := stuffingBeginsRow, standIns := [], harness := (true, "f4ba5b1a3369740023ae9a429b6f174994e87e3586ba13f5fcb9b0c028f35112"), looks := false }, kinds := [], alts := [], laidByText := true, laidKinds := [.data, .pinned], laidTests := true, laidLooks := .later }
def StuffingBeginsCardSaid : Prop := Claim7.holds Tryd.pinned (.plain (OpenSpec.ofChange stuffingBeginsSpec)) stuffingBeginsCard

/-- THE TIED CARD OF 'groovelaw30.StuffingWords'. -/
def stuffingWordsCard : Claim7 := { stood := { row := stuffingWordsRow, standIns := [], harness := (true, "f4ba5b1a3369740023ae9a429b6f174994e87e3586ba13f5fcb9b0c028f35112"), looks := false }, kinds := [], alts := [], laidByText := true, laidKinds := [.data, .pinned], laidTests := true, laidLooks := .later }
def StuffingWordsCardSaid : Prop := Claim7.holds Tryd.pinned (.plain (OpenSpec.ofChange stuffingWordsSpec)) stuffingWordsCard

/-- THE TIED CARD OF 'groovelaw30.StuffingInverse'. -/
def stuffingInverseCard : Claim7 := { stood := { row := stuffingInverseRow, standIns := [], harness := (true, "f4ba5b1a3369740023ae9a429b6f174994e87e3586ba13f5fcb9b0c028f35112"), looks := false }, kinds := [], alts := [], laidByText := true, laidKinds := [.data, .pinned], laidTests := true, laidLooks := .later }
def StuffingInverseCardSaid : Prop := Claim7.holds Tryd.pinned (.plain (OpenSpec.ofChange stuffingInverseSpec)) stuffingInverseCard

/-- THE TIED CARD OF 'groovelaw30.StuffingFrames'. -/
def stuffingFramesCard : Claim7 := { stood := { row := stuffingFramesRow, standIns := [], harness := (true, "f4ba5b1a3369740023ae9a429b6f174994e87e3586ba13f5fcb9b0c028f35112"), looks := false }, kinds := [], alts := [], laidByText := true, laidKinds := [.data, .pinned], laidTests := true, laidLooks := .later }
def StuffingFramesCardSaid : Prop := Claim7.holds Tryd.pinned (.plain (OpenSpec.ofChange stuffingFramesSpec)) stuffingFramesCard

/-- THE TIED CARD OF 'groovelaw30.StuffingBack'. -/
def stuffingBackCard : Claim7 := { stood := { row := stuffingBackRow, standIns := [], harness := (true, "f4ba5b1a3369740023ae9a429b6f174994e87e3586ba13f5fcb9b0c028f35112"), looks := false }, kinds := [], alts := [], laidByText := true, laidKinds := [.data, .pinned], laidTests := true, laidLooks := .later }
def StuffingBackCardSaid : Prop := Claim7.holds Tryd.pinned (.plain (OpenSpec.ofChange stuffingBackSpec)) stuffingBackCard

/-- THE TIED CARD OF 'groovelaw30.StuffingValid'. -/
def stuffingValidCard : Claim7 := { stood := { row := stuffingValidRow, standIns := [], harness := (true, "f4ba5b1a3369740023ae9a429b6f174994e87e3586ba13f5fcb9b0c028f35112"), looks := false }, kinds := [], alts := [], laidByText := true, laidKinds := [.data, .pinned], laidTests := true, laidLooks := .later }
def StuffingValidCardSaid : Prop := Claim7.holds Tryd.pinned (.plain (OpenSpec.ofChange stuffingValidSpec)) stuffingValidCard

/-- THE TIED CARD OF 'groovelaw30.StuffingStretches'. -/
def stuffingStretchesCard : Claim7 := { stood := { row := stuffingStretchesRow, standIns := [], harness := (true, "f4ba5b1a3369740023ae9a429b6f174994e87e3586ba13f5fcb9b0c028f35112"), looks := false }, kinds := [], alts := [], laidByText := true, laidKinds := [.data, .pinned], laidTests := true, laidLooks := .later }
def StuffingStretchesCardSaid : Prop := Claim7.holds Tryd.pinned (.plain (OpenSpec.ofChange stuffingStretchesSpec)) stuffingStretchesCard

/-- THE SECOND FORM's CARD OF 'groovelaw30.StuffingLengths'. -/
def stuffingLengthsUptoCard : Claim7 := { stood := { row := stuffingLengthsUptoRow, standIns := [], harness := (true, "f4ba5b1a3369740023ae9a429b6f174994e87e3586ba13f5fcb9b0c028f35112"), looks := false }, kinds := [], alts := [], laidByText := true, laidKinds := [.data, .pinned], laidTests := true, laidLooks := .later }
def StuffingLengthsUptoCardSaid : Prop := Claim7.holds Tryd.pinned (.plain (OpenSpec.upto stuffingLengthsSpec)) stuffingLengthsUptoCard

/-- THE SECOND FORM's CARD OF 'groovelaw30.StuffingBegins'. -/
def stuffingBeginsUptoCard : Claim7 := { stood := { row := stuffingBeginsUptoRow, standIns := [], harness := (true, "f4ba5b1a3369740023ae9a429b6f174994e87e3586ba13f5fcb9b0c028f35112"), looks := false }, kinds := [], alts := [], laidByText := true, laidKinds := [.data, .pinned], laidTests := true, laidLooks := .later }
def StuffingBeginsUptoCardSaid : Prop := Claim7.holds Tryd.pinned (.plain (OpenSpec.upto stuffingBeginsSpec)) stuffingBeginsUptoCard

/-- THE SECOND FORM's CARD OF 'groovelaw30.StuffingWords'. -/
def stuffingWordsUptoCard : Claim7 := { stood := { row := stuffingWordsUptoRow, standIns := [], harness := (true, "f4ba5b1a3369740023ae9a429b6f174994e87e3586ba13f5fcb9b0c028f35112"), looks := false }, kinds := [], alts := [], laidByText := true, laidKinds := [.data, .pinned], laidTests := true, laidLooks := .later }
def StuffingWordsUptoCardSaid : Prop := Claim7.holds Tryd.pinned (.plain (OpenSpec.upto stuffingWordsSpec)) stuffingWordsUptoCard

/-- THE SECOND FORM's CARD OF 'groovelaw30.StuffingInverse'. -/
def stuffingInverseUptoCard : Claim7 := { stood := { row := stuffingInverseUptoRow, standIns := [], harness := (true, "f4ba5b1a3369740023ae9a429b6f174994e87e3586ba13f5fcb9b0c028f35112"), looks := false }, kinds := [], alts := [], laidByText := true, laidKinds := [.data, .pinned], laidTests := true, laidLooks := .later }
def StuffingInverseUptoCardSaid : Prop := Claim7.holds Tryd.pinned (.plain (OpenSpec.upto stuffingInverseSpec)) stuffingInverseUptoCard

/-- THE SECOND FORM's CARD OF 'groovelaw30.StuffingFrames'. -/
def stuffingFramesUptoCard : Claim7 := { stood := { row := stuffingFramesUptoRow, standIns := [], harness := (true, "f4ba5b1a3369740023ae9a429b6f174994e87e3586ba13f5fcb9b0c028f35112"), looks := false }, kinds := [], alts := [], laidByText := true, laidKinds := [.data, .pinned], laidTests := true, laidLooks := .later }
def StuffingFramesUptoCardSaid : Prop := Claim7.holds Tryd.pinned (.plain (OpenSpec.upto stuffingFramesSpec)) stuffingFramesUptoCard

/-- THE SECOND FORM's CARD OF 'groovelaw30.StuffingBack'. -/
def stuffingBackUptoCard : Claim7 := { stood := { row := stuffingBackUptoRow, standIns := [], harness := (true, "f4ba5b1a3369740023ae9a429b6f174994e87e3586ba13f5fcb9b0c028f35112"), looks := false }, kinds := [], alts := [], laidByText := true, laidKinds := [.data, .pinned], laidTests := true, laidLooks := .later }
def StuffingBackUptoCardSaid : Prop := Claim7.holds Tryd.pinned (.plain (OpenSpec.upto stuffingBackSpec)) stuffingBackUptoCard

/-- THE SECOND FORM's CARD OF 'groovelaw30.StuffingValid'. -/
def stuffingValidUptoCard : Claim7 := { stood := { row := stuffingValidUptoRow, standIns := [], harness := (true, "f4ba5b1a3369740023ae9a429b6f174994e87e3586ba13f5fcb9b0c028f35112"), looks := false }, kinds := [], alts := [], laidByText := true, laidKinds := [.data, .pinned], laidTests := true, laidLooks := .later }
def StuffingValidUptoCardSaid : Prop := Claim7.holds Tryd.pinned (.plain (OpenSpec.upto stuffingValidSpec)) stuffingValidUptoCard

/-- THE SECOND FORM's CARD OF 'groovelaw30.StuffingStretches'. -/
def stuffingStretchesUptoCard : Claim7 := { stood := { row := stuffingStretchesUptoRow, standIns := [], harness := (true, "f4ba5b1a3369740023ae9a429b6f174994e87e3586ba13f5fcb9b0c028f35112"), looks := false }, kinds := [], alts := [], laidByText := true, laidKinds := [.data, .pinned], laidTests := true, laidLooks := .later }
def StuffingStretchesUptoCardSaid : Prop := Claim7.holds Tryd.pinned (.plain (OpenSpec.upto stuffingStretchesSpec)) stuffingStretchesUptoCard
end Rows
end Go.Proofs.YtdalcopbaaabiaaDoor
