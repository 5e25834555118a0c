/-
  DERIVED. GIVEN WITH THE SEED: THE CARDS: each row of YtbkipanlicgooaaGreatDoorRows.lean that lists a variable, with what it lists TIED to the program's text (the seventh form; the later family's looks); each row that meets fmt, with fmt's text TOLD by the authors' own Lean function (tested against real Go, not proved from fmt's source: count such statements apart). THE CARD IS WHAT COUNTS. Prove the row's statement (the work); the ties are given (YtbkipanlicgooaaGreatDoorTie.lean); close each card by the builder's one call (the guide's Derived/Test/ToyasCard.lean, 'card_holds'). Laid BY PROGRAM, IN A SANDBOX (cutbox-door.mjs). By AI agents, Wed Nov 11 2026. No macro, syntax, notation, axiom, sorry.
-/
import Derived.Test.YtbkipanlicgooaaGreatDoorRows
import GoSem.ClaimSeven
namespace Go.Proofs.YtbkipanlicgooaaGreatDoor
namespace Rows

/-- THE TIED CARD OF 'observatorylaw50.RepairSuffixAsReference'. -/
def repairSuffixAsReferenceCard : Claim7 := { stood := { row := repairSuffixAsReferenceRow, standIns := [], harness := (true, "1af072d20b9693068d8095a7d09e503804c1f652f8c42e2285a9f11bf2f6cd12"), looks := true }, kinds := [], alts := [], laidByText := true, laidKinds := [.sentinel, .sentinel, .data, .data, .data, .pinned, .data, .data, .data, .data], laidTests := true, laidLooks := .later }
def RepairSuffixAsReferenceCardSaid : Prop := Claim7.holds Tryz.pinned (.plain (OpenSpec.ofChange repairSuffixAsReferenceSpec)) repairSuffixAsReferenceCard

/-- THE TIED CARD OF 'observatorylaw50.RepairRests'. -/
def repairRestsCard : Claim7 := { stood := { row := repairRestsRow, standIns := [], harness := (true, "1af072d20b9693068d8095a7d09e503804c1f652f8c42e2285a9f11bf2f6cd12"), looks := true }, kinds := [], alts := [], laidByText := true, laidKinds := [.sentinel, .sentinel, .data, .data, .data, .pinned, .data, .data, .data, .data], laidTests := true, laidLooks := .later }
def RepairRestsCardSaid : Prop := Claim7.holds Tryz.pinned (.plain (OpenSpec.ofChange repairRestsSpec)) repairRestsCard

/-- THE TIED CARD OF 'observatorylaw50.RepairOver'. -/
def repairOverCard : Claim7 := { stood := { row := repairOverRow, standIns := [], harness := (true, "1af072d20b9693068d8095a7d09e503804c1f652f8c42e2285a9f11bf2f6cd12"), looks := true }, kinds := [], alts := [], laidByText := true, laidKinds := [.sentinel, .sentinel, .data, .data, .data, .pinned, .data, .data, .data, .data], laidTests := true, laidLooks := .later }
def RepairOverCardSaid : Prop := Claim7.holds Tryz.pinned (.plain (OpenSpec.ofChange repairOverSpec)) repairOverCard

/-- THE SECOND FORM's CARD OF 'observatorylaw50.RepairSuffixAsReference'. -/
def repairSuffixAsReferenceUptoCard : Claim7 := { stood := { row := repairSuffixAsReferenceUptoRow, standIns := [], harness := (true, "1af072d20b9693068d8095a7d09e503804c1f652f8c42e2285a9f11bf2f6cd12"), looks := true }, kinds := [], alts := [], laidByText := true, laidKinds := [.sentinel, .sentinel, .data, .data, .data, .pinned, .data, .data, .data, .data], laidTests := true, laidLooks := .later }
def RepairSuffixAsReferenceUptoCardSaid : Prop := Claim7.holds Tryz.pinned (.plain (OpenSpec.upto repairSuffixAsReferenceSpec)) repairSuffixAsReferenceUptoCard

/-- THE SECOND FORM's CARD OF 'observatorylaw50.RepairRests'. -/
def repairRestsUptoCard : Claim7 := { stood := { row := repairRestsUptoRow, standIns := [], harness := (true, "1af072d20b9693068d8095a7d09e503804c1f652f8c42e2285a9f11bf2f6cd12"), looks := true }, kinds := [], alts := [], laidByText := true, laidKinds := [.sentinel, .sentinel, .data, .data, .data, .pinned, .data, .data, .data, .data], laidTests := true, laidLooks := .later }
def RepairRestsUptoCardSaid : Prop := Claim7.holds Tryz.pinned (.plain (OpenSpec.upto repairRestsSpec)) repairRestsUptoCard

/-- THE SECOND FORM's CARD OF 'observatorylaw50.RepairOver'. -/
def repairOverUptoCard : Claim7 := { stood := { row := repairOverUptoRow, standIns := [], harness := (true, "1af072d20b9693068d8095a7d09e503804c1f652f8c42e2285a9f11bf2f6cd12"), looks := true }, kinds := [], alts := [], laidByText := true, laidKinds := [.sentinel, .sentinel, .data, .data, .data, .pinned, .data, .data, .data, .data], laidTests := true, laidLooks := .later }
def RepairOverUptoCardSaid : Prop := Claim7.holds Tryz.pinned (.plain (OpenSpec.upto repairOverSpec)) repairOverUptoCard
end Rows
end Go.Proofs.YtbkipanlicgooaaGreatDoor
