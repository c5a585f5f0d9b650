/-
  DERIVED. GIVEN WITH THE SEED: THE CARDS: each row of YtlofomkhiefbmaaGreatDoorRows.lean that lists a variable, with what it lists TIED to the program's text (the seventh form; the later family's looks); each row that meets fmt, with fmt's text TOLD by the authors' own Lean function (tested against real Go, not proved from fmt's source: count such statements apart). THE CARD IS WHAT COUNTS. Prove the row's statement (the work); the ties are given (YtlofomkhiefbmaaGreatDoorTie.lean); close each card by the builder's one call (the guide's Derived/Test/ToyasCard.lean, 'card_holds'). Laid BY PROGRAM, IN A SANDBOX (cutbox-door.mjs). By AI agents, Wed Nov 11 2026. No macro, syntax, notation, axiom, sorry.
-/
import Derived.Test.YtlofomkhiefbmaaGreatDoorRows
import GoSem.ClaimSeven
namespace Go.Proofs.YtlofomkhiefbmaaGreatDoor
namespace Rows

/-- THE TIED CARD OF 'jalousietop.TopCutOut'. -/
def topCutOutCard : Claim7 := { stood := { row := topCutOutRow, standIns := [], harness := (true, "fbab42ed9cbd64ff1e3ef510c038b387e4f8e8d6e7932e384232cf1d98790816"), looks := true }, kinds := [], alts := [], laidByText := true, laidKinds := [.data, .data, .pinned], laidTests := true, laidLooks := .later }
def TopCutOutCardSaid : Prop := Claim7.holds Tryz.pinned (.plain (OpenSpec.ofChange topCutOutSpec)) topCutOutCard

/-- THE TIED CARD OF 'jalousietop.TopShown'. -/
def topShownCard : Claim7 := { stood := { row := topShownRow, standIns := [], harness := (true, "fbab42ed9cbd64ff1e3ef510c038b387e4f8e8d6e7932e384232cf1d98790816"), looks := true }, kinds := [], alts := [], laidByText := true, laidKinds := [.data, .data, .pinned], laidTests := true, laidLooks := .later }
def TopShownCardSaid : Prop := Claim7.holds Tryz.pinned (.plain (OpenSpec.ofChange topShownSpec)) topShownCard

/-- THE SECOND FORM's CARD OF 'jalousietop.TopCutOut'. -/
def topCutOutUptoCard : Claim7 := { stood := { row := topCutOutUptoRow, standIns := [], harness := (true, "fbab42ed9cbd64ff1e3ef510c038b387e4f8e8d6e7932e384232cf1d98790816"), looks := true }, kinds := [], alts := [], laidByText := true, laidKinds := [.data, .data, .pinned], laidTests := true, laidLooks := .later }
def TopCutOutUptoCardSaid : Prop := Claim7.holds Tryz.pinned (.plain (OpenSpec.upto topCutOutSpec)) topCutOutUptoCard

/-- THE SECOND FORM's CARD OF 'jalousietop.TopShown'. -/
def topShownUptoCard : Claim7 := { stood := { row := topShownUptoRow, standIns := [], harness := (true, "fbab42ed9cbd64ff1e3ef510c038b387e4f8e8d6e7932e384232cf1d98790816"), looks := true }, kinds := [], alts := [], laidByText := true, laidKinds := [.data, .data, .pinned], laidTests := true, laidLooks := .later }
def TopShownUptoCardSaid : Prop := Claim7.holds Tryz.pinned (.plain (OpenSpec.upto topShownSpec)) topShownUptoCard
end Rows
end Go.Proofs.YtlofomkhiefbmaaGreatDoor
