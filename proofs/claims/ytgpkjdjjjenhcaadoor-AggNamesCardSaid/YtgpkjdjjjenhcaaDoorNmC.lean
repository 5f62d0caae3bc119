/- AggNames, the tied card: the law returns true, whatever the memory; the listed table is tied to the program's text. Conditions: the card's own; the given tie speaks of the pruned copy of the program that the seat holds. -/
import Derived.Test.YtgpkjdjjjenhcaaDoorNmP
import Derived.Test.YtgpkjdjjjenhcaaDoorCards
import Derived.Test.YtgpkjdjjjenhcaaDoorTie
import Derived.SevenTiedAt
namespace Go.Proofs.YtgpkjdjjjenhcaaDoor
open Go

theorem aggNames_card : Rows.AggNamesCardSaid :=
  Claim7.holds_tied_plain_at .later [] [.data] true (true, "217a2214ef6cb8cd71a6545066c633b95f85b0adc18a0dfe47a443a2fcd28b05") true
    aggNames_holds (fun _ h => by cases h) (by kernel_rfl) (fun _ h => by cases h) aggNames_row_tie rfl ⟨rfl, rfl⟩ (by kernel_rfl) rfl
    (fun f fn hf hfn => by
      obtain rfl : f = 3 := Option.some.inj ((show Tryd.prog.funcNamed "colonnade/colonnadelaw22.AggNames" = some 3 by kernel_rfl).symm.trans hf) |>.symm
      obtain rfl : fn = Tryd.f3 := (Option.some.inj (Tryd.func3.symm.trans hfn)).symm
      exact ⟨by kernel_rfl, fun j t ht => by
        rw [Tryd.params3] at ht
        simp at ht⟩)
    (by kernel_rfl)
#print axioms aggNames_card
end Go.Proofs.YtgpkjdjjjenhcaaDoor
