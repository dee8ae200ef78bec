/-
  DERIVED. GIVEN WITH THE SEED: THE CARDS: each row of YtfpmchhpejncpaaDoorRows.lean that lists a variable, with what it lists TIED to the program's text (the seventh form; the later family's looks); each row that meets fmt, with fmt's text TOLD by the authors' own Lean function (tested against real Go, not proved from fmt's source: count such statements apart). THE CARD IS WHAT COUNTS. Prove the row's statement (the work); the ties are given (YtfpmchhpejncpaaDoorTie.lean); close each card by the builder's one call (the guide's Derived/Test/ToyasCard.lean, 'card_holds'). Laid BY PROGRAM, IN A SANDBOX (cutbox-door.mjs). By AI agents, Wed Nov 11 2026. No macro, syntax, notation, axiom, sorry.
-/
import Derived.Test.YtfpmchhpejncpaaDoorRows
import GoSem.ClaimSeven
namespace Go.Proofs.YtfpmchhpejncpaaDoor
namespace Rows

/-- THE TIED CARD OF 'regattalaw03.DigitsText'. -/
def digitsTextCard : Claim7 := { stood := { row := digitsTextRow, standIns := [], harness := (true, "820a7a8419061d0e0bacd01691550250bd96c3f67de891f7391309da0c9d63b7"), looks := true }, kinds := [], alts := [], laidByText := true, laidKinds := [.data, .data, .data], laidTests := true, laidLooks := .later }
def DigitsTextCardSaid : Prop := Claim7.holds Tryd.pinned (.plain (OpenSpec.ofChange digitsTextSpec)) digitsTextCard

/-- THE TIED CARD OF 'regattalaw03.DigitsParse'. -/
def digitsParseCard : Claim7 := { stood := { row := digitsParseRow, standIns := [], harness := (true, "820a7a8419061d0e0bacd01691550250bd96c3f67de891f7391309da0c9d63b7"), looks := true }, kinds := [], alts := [], laidByText := true, laidKinds := [.data, .data, .data], laidTests := true, laidLooks := .later }
def DigitsParseCardSaid : Prop := Claim7.holds Tryd.pinned (.plain (OpenSpec.ofChange digitsParseSpec)) digitsParseCard

/-- THE TIED CARD OF 'regattalaw03.DigitsNoughts'. -/
def digitsNoughtsCard : Claim7 := { stood := { row := digitsNoughtsRow, standIns := [], harness := (true, "820a7a8419061d0e0bacd01691550250bd96c3f67de891f7391309da0c9d63b7"), looks := true }, kinds := [], alts := [], laidByText := true, laidKinds := [.data, .data, .data], laidTests := true, laidLooks := .later }
def DigitsNoughtsCardSaid : Prop := Claim7.holds Tryd.pinned (.plain (OpenSpec.ofChange digitsNoughtsSpec)) digitsNoughtsCard

/-- THE TIED CARD OF 'regattalaw03.DigitsMinus'. -/
def digitsMinusCard : Claim7 := { stood := { row := digitsMinusRow, standIns := [], harness := (true, "820a7a8419061d0e0bacd01691550250bd96c3f67de891f7391309da0c9d63b7"), looks := true }, kinds := [], alts := [], laidByText := true, laidKinds := [.data, .data, .data], laidTests := true, laidLooks := .later }
def DigitsMinusCardSaid : Prop := Claim7.holds Tryd.pinned (.plain (OpenSpec.ofChange digitsMinusSpec)) digitsMinusCard

/-- THE TIED CARD OF 'regattalaw03.DigitsOrder'. -/
def digitsOrderCard : Claim7 := { stood := { row := digitsOrderRow, standIns := [], harness := (true, "820a7a8419061d0e0bacd01691550250bd96c3f67de891f7391309da0c9d63b7"), looks := true }, kinds := [], alts := [], laidByText := true, laidKinds := [.data, .data, .data], laidTests := true, laidLooks := .later }
def DigitsOrderCardSaid : Prop := Claim7.holds Tryd.pinned (.plain (OpenSpec.ofChange digitsOrderSpec)) digitsOrderCard

/-- THE TIED CARD OF 'regattalaw03.DigitsInts'. -/
def digitsIntsCard : Claim7 := { stood := { row := digitsIntsRow, standIns := [], harness := (true, "820a7a8419061d0e0bacd01691550250bd96c3f67de891f7391309da0c9d63b7"), looks := true }, kinds := [], alts := [], laidByText := true, laidKinds := [.data, .data, .data, .sentinel, .sentinel], laidTests := true, laidLooks := .later }
def DigitsIntsCardSaid : Prop := Claim7.holds Tryd.pinned (.plain (OpenSpec.ofChange digitsIntsSpec)) digitsIntsCard

/-- THE TIED CARD OF 'regattalaw03.DigitsBack'. -/
def digitsBackCard : Claim7 := { stood := { row := digitsBackRow, standIns := [], harness := (true, "820a7a8419061d0e0bacd01691550250bd96c3f67de891f7391309da0c9d63b7"), looks := true }, kinds := [], alts := [], laidByText := true, laidKinds := [.data, .data, .data, .sentinel, .sentinel], laidTests := true, laidLooks := .later }
def DigitsBackCardSaid : Prop := Claim7.holds Tryd.pinned (.plain (OpenSpec.ofChange digitsBackSpec)) digitsBackCard

/-- THE SECOND FORM's CARD OF 'regattalaw03.DigitsText'. -/
def digitsTextUptoCard : Claim7 := { stood := { row := digitsTextUptoRow, standIns := [], harness := (true, "820a7a8419061d0e0bacd01691550250bd96c3f67de891f7391309da0c9d63b7"), looks := true }, kinds := [], alts := [], laidByText := true, laidKinds := [.data, .data, .data], laidTests := true, laidLooks := .later }
def DigitsTextUptoCardSaid : Prop := Claim7.holds Tryd.pinned (.plain (OpenSpec.upto digitsTextSpec)) digitsTextUptoCard

/-- THE SECOND FORM's CARD OF 'regattalaw03.DigitsParse'. -/
def digitsParseUptoCard : Claim7 := { stood := { row := digitsParseUptoRow, standIns := [], harness := (true, "820a7a8419061d0e0bacd01691550250bd96c3f67de891f7391309da0c9d63b7"), looks := true }, kinds := [], alts := [], laidByText := true, laidKinds := [.data, .data, .data], laidTests := true, laidLooks := .later }
def DigitsParseUptoCardSaid : Prop := Claim7.holds Tryd.pinned (.plain (OpenSpec.upto digitsParseSpec)) digitsParseUptoCard

/-- THE SECOND FORM's CARD OF 'regattalaw03.DigitsNoughts'. -/
def digitsNoughtsUptoCard : Claim7 := { stood := { row := digitsNoughtsUptoRow, standIns := [], harness := (true, "820a7a8419061d0e0bacd01691550250bd96c3f67de891f7391309da0c9d63b7"), looks := true }, kinds := [], alts := [], laidByText := true, laidKinds := [.data, .data, .data], laidTests := true, laidLooks := .later }
def DigitsNoughtsUptoCardSaid : Prop := Claim7.holds Tryd.pinned (.plain (OpenSpec.upto digitsNoughtsSpec)) digitsNoughtsUptoCard

/-- THE SECOND FORM's CARD OF 'regattalaw03.DigitsMinus'. -/
def digitsMinusUptoCard : Claim7 := { stood := { row := digitsMinusUptoRow, standIns := [], harness := (true, "820a7a8419061d0e0bacd01691550250bd96c3f67de891f7391309da0c9d63b7"), looks := true }, kinds := [], alts := [], laidByText := true, laidKinds := [.data, .data, .data], laidTests := true, laidLooks := .later }
def DigitsMinusUptoCardSaid : Prop := Claim7.holds Tryd.pinned (.plain (OpenSpec.upto digitsMinusSpec)) digitsMinusUptoCard

/-- THE SECOND FORM's CARD OF 'regattalaw03.DigitsOrder'. -/
def digitsOrderUptoCard : Claim7 := { stood := { row := digitsOrderUptoRow, standIns := [], harness := (true, "820a7a8419061d0e0bacd01691550250bd96c3f67de891f7391309da0c9d63b7"), looks := true }, kinds := [], alts := [], laidByText := true, laidKinds := [.data, .data, .data], laidTests := true, laidLooks := .later }
def DigitsOrderUptoCardSaid : Prop := Claim7.holds Tryd.pinned (.plain (OpenSpec.upto digitsOrderSpec)) digitsOrderUptoCard

/-- THE SECOND FORM's CARD OF 'regattalaw03.DigitsInts'. -/
def digitsIntsUptoCard : Claim7 := { stood := { row := digitsIntsUptoRow, standIns := [], harness := (true, "820a7a8419061d0e0bacd01691550250bd96c3f67de891f7391309da0c9d63b7"), looks := true }, kinds := [], alts := [], laidByText := true, laidKinds := [.data, .data, .data, .sentinel, .sentinel], laidTests := true, laidLooks := .later }
def DigitsIntsUptoCardSaid : Prop := Claim7.holds Tryd.pinned (.plain (OpenSpec.upto digitsIntsSpec)) digitsIntsUptoCard

/-- THE SECOND FORM's CARD OF 'regattalaw03.DigitsBack'. -/
def digitsBackUptoCard : Claim7 := { stood := { row := digitsBackUptoRow, standIns := [], harness := (true, "820a7a8419061d0e0bacd01691550250bd96c3f67de891f7391309da0c9d63b7"), looks := true }, kinds := [], alts := [], laidByText := true, laidKinds := [.data, .data, .data, .sentinel, .sentinel], laidTests := true, laidLooks := .later }
def DigitsBackUptoCardSaid : Prop := Claim7.holds Tryd.pinned (.plain (OpenSpec.upto digitsBackSpec)) digitsBackUptoCard
end Rows
end Go.Proofs.YtfpmchhpejncpaaDoor
