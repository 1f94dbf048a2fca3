/-
  DERIVED. GIVEN WITH THE SEED: THE CARDS: each row of YtmjkohjijoddaaaDoorRows.lean that lists a variable, with what it lists TIED to the program's text (the seventh form; the later family's looks); each row that meets fmt, with fmt's text TOLD by the authors' own Lean function (tested against real Go, not proved from fmt's source: count such statements apart). THE CARD IS WHAT COUNTS. Prove the row's statement (the work); the ties are given (YtmjkohjijoddaaaDoorTie.lean); close each card by the builder's one call (the guide's Derived/Test/ToyasCard.lean, 'card_holds'). Laid BY PROGRAM, IN A SANDBOX (cutbox-door.mjs). By AI agents, Wed Nov 11 2026. No macro, syntax, notation, axiom, sorry.
-/
import Derived.Test.YtmjkohjijoddaaaDoorRows
import GoSem.ClaimSeven
namespace Go.Proofs.YtmjkohjijoddaaaDoor
namespace Rows

/-- THE TIED CARD OF 'skerrylaw07.HeadTells'. -/
def headTellsCard : Claim7 := { stood := { row := headTellsRow, standIns := [], harness := (true, "5dce69b67a311bb17d2428e4b889ebd6a8eba01429d1568598451a22d10d3906"), looks := false }, kinds := [], alts := [], laidByText := true, laidKinds := [.data], laidTests := true, laidLooks := .later }
def HeadTellsCardSaid : Prop := Claim7.holds Tryd.pinned (.plain (OpenSpec.ofChange headTellsSpec)) headTellsCard

/-- THE TIED CARD OF 'skerrylaw07.HeadBack'. -/
def headBackCard : Claim7 := { stood := { row := headBackRow, standIns := [], harness := (true, "5dce69b67a311bb17d2428e4b889ebd6a8eba01429d1568598451a22d10d3906"), looks := false }, kinds := [], alts := [], laidByText := true, laidKinds := [.data], laidTests := true, laidLooks := .later }
def HeadBackCardSaid : Prop := Claim7.holds Tryd.pinned (.plain (OpenSpec.ofChange headBackSpec)) headBackCard

/-- THE TIED CARD OF 'skerrylaw08.ShapeMakes'. -/
def shapeMakesCard : Claim7 := { stood := { row := shapeMakesRow, standIns := [], harness := (true, "5dce69b67a311bb17d2428e4b889ebd6a8eba01429d1568598451a22d10d3906"), looks := false }, kinds := [], alts := [], laidByText := true, laidKinds := [.data], laidTests := true, laidLooks := .later }
def ShapeMakesCardSaid : Prop := Claim7.holds Tryd.pinned (.plain (OpenSpec.ofChange shapeMakesSpec)) shapeMakesCard

/-- THE TIED CARD OF 'skerrylaw07.HeadOf'. -/
def headOfCard : Claim7 := { stood := { row := headOfRow, standIns := [], harness := (true, "5dce69b67a311bb17d2428e4b889ebd6a8eba01429d1568598451a22d10d3906"), looks := false }, kinds := [], alts := [], laidByText := true, laidKinds := [.data], laidTests := true, laidLooks := .later }
def HeadOfCardSaid : Prop := Claim7.holds Tryd.pinned (.plain (OpenSpec.ofChange headOfSpec)) headOfCard

/-- THE TIED CARD OF 'skerrylaw07.HeadFits'. -/
def headFitsCard : Claim7 := { stood := { row := headFitsRow, standIns := [], harness := (true, "5dce69b67a311bb17d2428e4b889ebd6a8eba01429d1568598451a22d10d3906"), looks := false }, kinds := [], alts := [], laidByText := true, laidKinds := [.data], laidTests := true, laidLooks := .later }
def HeadFitsCardSaid : Prop := Claim7.holds Tryd.pinned (.plain (OpenSpec.ofChange headFitsSpec)) headFitsCard

/-- THE TIED CARD OF 'skerrylaw08.ShapeAddrs'. -/
def shapeAddrsCard : Claim7 := { stood := { row := shapeAddrsRow, standIns := [], harness := (true, "5dce69b67a311bb17d2428e4b889ebd6a8eba01429d1568598451a22d10d3906"), looks := false }, kinds := [], alts := [], laidByText := true, laidKinds := [.data], laidTests := true, laidLooks := .later }
def ShapeAddrsCardSaid : Prop := Claim7.holds Tryd.pinned (.plain (OpenSpec.ofChange shapeAddrsSpec)) shapeAddrsCard

/-- THE TIED CARD OF 'skerrylaw08.ShapeKeeps'. -/
def shapeKeepsCard : Claim7 := { stood := { row := shapeKeepsRow, standIns := [], harness := (true, "5dce69b67a311bb17d2428e4b889ebd6a8eba01429d1568598451a22d10d3906"), looks := false }, kinds := [], alts := [], laidByText := true, laidKinds := [.data], laidTests := true, laidLooks := .later }
def ShapeKeepsCardSaid : Prop := Claim7.holds Tryd.pinned (.plain (OpenSpec.ofChange shapeKeepsSpec)) shapeKeepsCard

/-- THE SECOND FORM's CARD OF 'skerrylaw07.HeadTells'. -/
def headTellsUptoCard : Claim7 := { stood := { row := headTellsUptoRow, standIns := [], harness := (true, "5dce69b67a311bb17d2428e4b889ebd6a8eba01429d1568598451a22d10d3906"), looks := false }, kinds := [], alts := [], laidByText := true, laidKinds := [.data], laidTests := true, laidLooks := .later }
def HeadTellsUptoCardSaid : Prop := Claim7.holds Tryd.pinned (.plain (OpenSpec.upto headTellsSpec)) headTellsUptoCard

/-- THE SECOND FORM's CARD OF 'skerrylaw07.HeadBack'. -/
def headBackUptoCard : Claim7 := { stood := { row := headBackUptoRow, standIns := [], harness := (true, "5dce69b67a311bb17d2428e4b889ebd6a8eba01429d1568598451a22d10d3906"), looks := false }, kinds := [], alts := [], laidByText := true, laidKinds := [.data], laidTests := true, laidLooks := .later }
def HeadBackUptoCardSaid : Prop := Claim7.holds Tryd.pinned (.plain (OpenSpec.upto headBackSpec)) headBackUptoCard

/-- THE SECOND FORM's CARD OF 'skerrylaw08.ShapeMakes'. -/
def shapeMakesUptoCard : Claim7 := { stood := { row := shapeMakesUptoRow, standIns := [], harness := (true, "5dce69b67a311bb17d2428e4b889ebd6a8eba01429d1568598451a22d10d3906"), looks := false }, kinds := [], alts := [], laidByText := true, laidKinds := [.data], laidTests := true, laidLooks := .later }
def ShapeMakesUptoCardSaid : Prop := Claim7.holds Tryd.pinned (.plain (OpenSpec.upto shapeMakesSpec)) shapeMakesUptoCard

/-- THE SECOND FORM's CARD OF 'skerrylaw07.HeadOf'. -/
def headOfUptoCard : Claim7 := { stood := { row := headOfUptoRow, standIns := [], harness := (true, "5dce69b67a311bb17d2428e4b889ebd6a8eba01429d1568598451a22d10d3906"), looks := false }, kinds := [], alts := [], laidByText := true, laidKinds := [.data], laidTests := true, laidLooks := .later }
def HeadOfUptoCardSaid : Prop := Claim7.holds Tryd.pinned (.plain (OpenSpec.upto headOfSpec)) headOfUptoCard

/-- THE SECOND FORM's CARD OF 'skerrylaw07.HeadFits'. -/
def headFitsUptoCard : Claim7 := { stood := { row := headFitsUptoRow, standIns := [], harness := (true, "5dce69b67a311bb17d2428e4b889ebd6a8eba01429d1568598451a22d10d3906"), looks := false }, kinds := [], alts := [], laidByText := true, laidKinds := [.data], laidTests := true, laidLooks := .later }
def HeadFitsUptoCardSaid : Prop := Claim7.holds Tryd.pinned (.plain (OpenSpec.upto headFitsSpec)) headFitsUptoCard

/-- THE SECOND FORM's CARD OF 'skerrylaw08.ShapeAddrs'. -/
def shapeAddrsUptoCard : Claim7 := { stood := { row := shapeAddrsUptoRow, standIns := [], harness := (true, "5dce69b67a311bb17d2428e4b889ebd6a8eba01429d1568598451a22d10d3906"), looks := false }, kinds := [], alts := [], laidByText := true, laidKinds := [.data], laidTests := true, laidLooks := .later }
def ShapeAddrsUptoCardSaid : Prop := Claim7.holds Tryd.pinned (.plain (OpenSpec.upto shapeAddrsSpec)) shapeAddrsUptoCard

/-- THE SECOND FORM's CARD OF 'skerrylaw08.ShapeKeeps'. -/
def shapeKeepsUptoCard : Claim7 := { stood := { row := shapeKeepsUptoRow, standIns := [], harness := (true, "5dce69b67a311bb17d2428e4b889ebd6a8eba01429d1568598451a22d10d3906"), looks := false }, kinds := [], alts := [], laidByText := true, laidKinds := [.data], laidTests := true, laidLooks := .later }
def ShapeKeepsUptoCardSaid : Prop := Claim7.holds Tryd.pinned (.plain (OpenSpec.upto shapeKeepsSpec)) shapeKeepsUptoCard
end Rows
end Go.Proofs.YtmjkohjijoddaaaDoor
