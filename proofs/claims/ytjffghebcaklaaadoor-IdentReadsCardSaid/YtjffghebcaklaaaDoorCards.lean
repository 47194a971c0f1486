/-
  DERIVED. GIVEN WITH THE SEED: THE CARDS: each row of YtjffghebcaklaaaDoorRows.lean that lists a variable, with what it lists TIED to the program's text (the seventh form; the later family's looks); each row that meets fmt, with fmt's text TOLD by the authors' own Lean function (tested against real Go, not proved from fmt's source: count such statements apart). THE CARD IS WHAT COUNTS. Prove the row's statement (the work); the ties are given (YtjffghebcaklaaaDoorTie.lean); close each card by the builder's one call (the guide's Derived/Test/ToyasCard.lean, 'card_holds'). Laid BY PROGRAM, IN A SANDBOX (cutbox-door.mjs). By AI agents, Wed Nov 11 2026. No macro, syntax, notation, axiom, sorry.
-/
import Derived.Test.YtjffghebcaklaaaDoorRows
import GoSem.ClaimSeven
namespace Go.Proofs.YtjffghebcaklaaaDoor
namespace Rows

/-- THE TIED CARD OF 'cortegelaw03.IdentTells'. -/
def identTellsCard : Claim7 := { stood := { row := identTellsRow, standIns := [], harness := (true, "677a9521bb952bab75b5ad84be6af008263336ee9bfc3d17d1eef932f7b5529d"), looks := true }, kinds := [], alts := [], laidByText := true, laidKinds := [.data, .data, .data, .sentinel, .sentinel], laidTests := true, laidLooks := .later }
def IdentTellsCardSaid : Prop := Claim7.holds Tryd.pinned (.plain (OpenSpec.ofChange identTellsSpec)) identTellsCard

/-- THE TIED CARD OF 'cortegelaw03.IdentReads'. -/
def identReadsCard : Claim7 := { stood := { row := identReadsRow, standIns := [], harness := (true, "677a9521bb952bab75b5ad84be6af008263336ee9bfc3d17d1eef932f7b5529d"), looks := true }, kinds := [], alts := [], laidByText := true, laidKinds := [.data, .data, .data, .sentinel, .sentinel], laidTests := true, laidLooks := .later }
def IdentReadsCardSaid : Prop := Claim7.holds Tryd.pinned (.plain (OpenSpec.ofChange identReadsSpec)) identReadsCard

/-- THE TIED CARD OF 'cortegelaw02.ExactTexts'. -/
def exactTextsCard : Claim7 := { stood := { row := exactTextsRow, standIns := [], harness := (true, "677a9521bb952bab75b5ad84be6af008263336ee9bfc3d17d1eef932f7b5529d"), looks := true }, kinds := [], alts := [], laidByText := true, laidKinds := [.data, .data, .data, .sentinel, .sentinel], laidTests := true, laidLooks := .later }
def ExactTextsCardSaid : Prop := Claim7.holds Tryd.pinned (.plain (OpenSpec.ofChange exactTextsSpec)) exactTextsCard

/-- THE TIED CARD OF 'cortegelaw02.ExactReads'. -/
def exactReadsCard : Claim7 := { stood := { row := exactReadsRow, standIns := [], harness := (true, "677a9521bb952bab75b5ad84be6af008263336ee9bfc3d17d1eef932f7b5529d"), looks := true }, kinds := [], alts := [], laidByText := true, laidKinds := [.data, .data, .data, .sentinel, .sentinel], laidTests := true, laidLooks := .later }
def ExactReadsCardSaid : Prop := Claim7.holds Tryd.pinned (.plain (OpenSpec.ofChange exactReadsSpec)) exactReadsCard

/-- THE TIED CARD OF 'cortegelaw06.CmdReads'. -/
def cmdReadsCard : Claim7 := { stood := { row := cmdReadsRow, standIns := [], harness := (true, "677a9521bb952bab75b5ad84be6af008263336ee9bfc3d17d1eef932f7b5529d"), looks := true }, kinds := [], alts := [], laidByText := true, laidKinds := [.data, .data, .data, .data, .sentinel, .sentinel, .pinned], laidTests := true, laidLooks := .later }
def CmdReadsCardSaid : Prop := Claim7.holds Tryd.pinned (.plain (OpenSpec.ofChange cmdReadsSpec)) cmdReadsCard

/-- THE TIED CARD OF 'cortegelaw06.CmdTells'. -/
def cmdTellsCard : Claim7 := { stood := { row := cmdTellsRow, standIns := [], harness := (true, "677a9521bb952bab75b5ad84be6af008263336ee9bfc3d17d1eef932f7b5529d"), looks := true }, kinds := [], alts := [], laidByText := true, laidKinds := [.data, .data, .data, .data, .sentinel, .sentinel, .pinned], laidTests := true, laidLooks := .later }
def CmdTellsCardSaid : Prop := Claim7.holds Tryd.pinned (.plain (OpenSpec.ofChange cmdTellsSpec)) cmdTellsCard

/-- THE SECOND FORM's CARD OF 'cortegelaw03.IdentTells'. -/
def identTellsUptoCard : Claim7 := { stood := { row := identTellsUptoRow, standIns := [], harness := (true, "677a9521bb952bab75b5ad84be6af008263336ee9bfc3d17d1eef932f7b5529d"), looks := true }, kinds := [], alts := [], laidByText := true, laidKinds := [.data, .data, .data, .sentinel, .sentinel], laidTests := true, laidLooks := .later }
def IdentTellsUptoCardSaid : Prop := Claim7.holds Tryd.pinned (.plain (OpenSpec.upto identTellsSpec)) identTellsUptoCard

/-- THE SECOND FORM's CARD OF 'cortegelaw03.IdentReads'. -/
def identReadsUptoCard : Claim7 := { stood := { row := identReadsUptoRow, standIns := [], harness := (true, "677a9521bb952bab75b5ad84be6af008263336ee9bfc3d17d1eef932f7b5529d"), looks := true }, kinds := [], alts := [], laidByText := true, laidKinds := [.data, .data, .data, .sentinel, .sentinel], laidTests := true, laidLooks := .later }
def IdentReadsUptoCardSaid : Prop := Claim7.holds Tryd.pinned (.plain (OpenSpec.upto identReadsSpec)) identReadsUptoCard

/-- THE SECOND FORM's CARD OF 'cortegelaw02.ExactTexts'. -/
def exactTextsUptoCard : Claim7 := { stood := { row := exactTextsUptoRow, standIns := [], harness := (true, "677a9521bb952bab75b5ad84be6af008263336ee9bfc3d17d1eef932f7b5529d"), looks := true }, kinds := [], alts := [], laidByText := true, laidKinds := [.data, .data, .data, .sentinel, .sentinel], laidTests := true, laidLooks := .later }
def ExactTextsUptoCardSaid : Prop := Claim7.holds Tryd.pinned (.plain (OpenSpec.upto exactTextsSpec)) exactTextsUptoCard

/-- THE SECOND FORM's CARD OF 'cortegelaw02.ExactReads'. -/
def exactReadsUptoCard : Claim7 := { stood := { row := exactReadsUptoRow, standIns := [], harness := (true, "677a9521bb952bab75b5ad84be6af008263336ee9bfc3d17d1eef932f7b5529d"), looks := true }, kinds := [], alts := [], laidByText := true, laidKinds := [.data, .data, .data, .sentinel, .sentinel], laidTests := true, laidLooks := .later }
def ExactReadsUptoCardSaid : Prop := Claim7.holds Tryd.pinned (.plain (OpenSpec.upto exactReadsSpec)) exactReadsUptoCard

/-- THE SECOND FORM's CARD OF 'cortegelaw06.CmdReads'. -/
def cmdReadsUptoCard : Claim7 := { stood := { row := cmdReadsUptoRow, standIns := [], harness := (true, "677a9521bb952bab75b5ad84be6af008263336ee9bfc3d17d1eef932f7b5529d"), looks := true }, kinds := [], alts := [], laidByText := true, laidKinds := [.data, .data, .data, .data, .sentinel, .sentinel, .pinned], laidTests := true, laidLooks := .later }
def CmdReadsUptoCardSaid : Prop := Claim7.holds Tryd.pinned (.plain (OpenSpec.upto cmdReadsSpec)) cmdReadsUptoCard

/-- THE SECOND FORM's CARD OF 'cortegelaw06.CmdTells'. -/
def cmdTellsUptoCard : Claim7 := { stood := { row := cmdTellsUptoRow, standIns := [], harness := (true, "677a9521bb952bab75b5ad84be6af008263336ee9bfc3d17d1eef932f7b5529d"), looks := true }, kinds := [], alts := [], laidByText := true, laidKinds := [.data, .data, .data, .data, .sentinel, .sentinel, .pinned], laidTests := true, laidLooks := .later }
def CmdTellsUptoCardSaid : Prop := Claim7.holds Tryd.pinned (.plain (OpenSpec.upto cmdTellsSpec)) cmdTellsUptoCard
end Rows
end Go.Proofs.YtjffghebcaklaaaDoor
