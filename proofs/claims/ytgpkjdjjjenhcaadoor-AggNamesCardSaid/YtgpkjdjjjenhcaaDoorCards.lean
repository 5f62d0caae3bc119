/-
  DERIVED. GIVEN WITH THE SEED: THE CARDS: each row of YtgpkjdjjjenhcaaDoorRows.lean that lists a variable, with what it lists TIED to the program's text (the seventh form; the later family's looks); each row that meets fmt, with fmt's text TOLD by the authors' own Lean function (tested against real Go, not proved from fmt's source: count such statements apart). THE CARD IS WHAT COUNTS. Prove the row's statement (the work); the ties are given (YtgpkjdjjjenhcaaDoorTie.lean); close each card by the builder's one call (the guide's Derived/Test/ToyasCard.lean, 'card_holds'). Laid BY PROGRAM, IN A SANDBOX (cutbox-door.mjs). By AI agents, Wed Nov 11 2026. No macro, syntax, notation, axiom, sorry.
-/
import Derived.Test.YtgpkjdjjjenhcaaDoorRows
import GoSem.ClaimSeven
namespace Go.Proofs.YtgpkjdjjjenhcaaDoor
namespace Rows

/-- THE TIED CARD OF 'colonnadelaw22.AggNames'. -/
def aggNamesCard : Claim7 := { stood := { row := aggNamesRow, standIns := [], harness := (true, "217a2214ef6cb8cd71a6545066c633b95f85b0adc18a0dfe47a443a2fcd28b05"), looks := true }, kinds := [], alts := [], laidByText := true, laidKinds := [.data], laidTests := true, laidLooks := .later }
def AggNamesCardSaid : Prop := Claim7.holds Tryd.pinned (.plain (OpenSpec.ofChange aggNamesSpec)) aggNamesCard

/-- THE SECOND FORM's CARD OF 'colonnadelaw22.AggNames'. -/
def aggNamesUptoCard : Claim7 := { stood := { row := aggNamesUptoRow, standIns := [], harness := (true, "217a2214ef6cb8cd71a6545066c633b95f85b0adc18a0dfe47a443a2fcd28b05"), looks := true }, kinds := [], alts := [], laidByText := true, laidKinds := [.data], laidTests := true, laidLooks := .later }
def AggNamesUptoCardSaid : Prop := Claim7.holds Tryd.pinned (.plain (OpenSpec.upto aggNamesSpec)) aggNamesUptoCard
end Rows
end Go.Proofs.YtgpkjdjjjenhcaaDoor
