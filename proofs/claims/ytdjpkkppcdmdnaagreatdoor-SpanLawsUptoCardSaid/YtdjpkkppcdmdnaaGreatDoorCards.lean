/-
  DERIVED. GIVEN WITH THE SEED: THE CARDS: each row of YtdjpkkppcdmdnaaGreatDoorRows.lean that lists a variable, with what it lists TIED to the program's text (the seventh form; the later family's looks); each row that meets fmt, with fmt's text TOLD by the authors' own Lean function (tested against real Go, not proved from fmt's source: count such statements apart). THE CARD IS WHAT COUNTS. Prove the row's statement (the work); the ties are given (YtdjpkkppcdmdnaaGreatDoorTie.lean); close each card by the builder's one call (the guide's Derived/Test/ToyasCard.lean, 'card_holds'). Laid BY PROGRAM, IN A SANDBOX (cutbox-door.mjs). By AI agents, Wed Nov 11 2026. No macro, syntax, notation, axiom, sorry.
-/
import Derived.Test.YtdjpkkppcdmdnaaGreatDoorRows
import GoSem.ClaimSeven
namespace Go.Proofs.YtdjpkkppcdmdnaaGreatDoor
namespace Rows

/-- THE TIED CARD OF 'portlaw1.SpanLaws'. -/
def spanLawsCard : Claim7 := { stood := { row := spanLawsRow, standIns := [], harness := (true, "60d4b785af1206ae30824c812bf95232989b32c5f8444d9da094e9bd6c2a9ab4"), looks := true }, kinds := [], alts := [], laidByText := true, laidKinds := [.data, .data, .data, .data, .sentinel, .sentinel, .pinned], laidTests := true, laidLooks := .later }
def SpanLawsCardSaid : Prop := Claim7.holds Tryz.pinned (.plain (OpenSpec.ofChange spanLawsSpec)) spanLawsCard

/-- THE TIED CARD OF 'portlaw1.SpanTexts'. -/
def spanTextsCard : Claim7 := { stood := { row := spanTextsRow, standIns := [], harness := (true, "60d4b785af1206ae30824c812bf95232989b32c5f8444d9da094e9bd6c2a9ab4"), looks := true }, kinds := [], alts := [], laidByText := true, laidKinds := [.data, .data, .data, .data, .handle, .sentinel, .sentinel, .pinned], laidTests := true, laidLooks := .later }
def SpanTextsCardSaid : Prop := Claim7.holds Tryz.pinned (.plain (OpenSpec.ofChange spanTextsSpec)) spanTextsCard

/-- THE SECOND FORM's CARD OF 'portlaw1.SpanLaws'. -/
def spanLawsUptoCard : Claim7 := { stood := { row := spanLawsUptoRow, standIns := [], harness := (true, "60d4b785af1206ae30824c812bf95232989b32c5f8444d9da094e9bd6c2a9ab4"), looks := true }, kinds := [], alts := [], laidByText := true, laidKinds := [.data, .data, .data, .data, .sentinel, .sentinel, .pinned], laidTests := true, laidLooks := .later }
def SpanLawsUptoCardSaid : Prop := Claim7.holds Tryz.pinned (.plain (OpenSpec.upto spanLawsSpec)) spanLawsUptoCard

/-- THE SECOND FORM's CARD OF 'portlaw1.SpanTexts'. -/
def spanTextsUptoCard : Claim7 := { stood := { row := spanTextsUptoRow, standIns := [], harness := (true, "60d4b785af1206ae30824c812bf95232989b32c5f8444d9da094e9bd6c2a9ab4"), looks := true }, kinds := [], alts := [], laidByText := true, laidKinds := [.data, .data, .data, .data, .handle, .sentinel, .sentinel, .pinned], laidTests := true, laidLooks := .later }
def SpanTextsUptoCardSaid : Prop := Claim7.holds Tryz.pinned (.plain (OpenSpec.upto spanTextsSpec)) spanTextsUptoCard
end Rows
end Go.Proofs.YtdjpkkppcdmdnaaGreatDoor
