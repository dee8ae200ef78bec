/-
  No cell of these rows narrows 'for every input' (looked for: loops, veiled, ifaces, maps, wideKeys, modest, calm, conditions, laid).
  DERIVED. THE GIVEN ROWS OF THIS SEAT. 9 by the template 'for every input the law returns true; each argument reads behind the call as it read before'; 0 by the template 'total and deterministic' (their statements: YtklkhlipecphkaaTotals.lean).
  GIVEN WITH THE SEED: the statements are not yours to turn. If you find one false, say at which input.
  Laid BY PROGRAM, IN A SANDBOX (cutbox-rows.mjs): the forced cells as the released guide's own fill.sh prints them over the translation d95c1650a6aab879… (all of the seat's roots in one cut). By AI agents, Wed Nov 11 2026. No macro, syntax, notation, axiom, sorry.
-/
import Derived.Test.YtklkhlipecphkaaChecked
import GoSem.Claim
import GoSem.ClaimJoined
import GoSem.ClaimMapViews
import Derived.JoinedTies
import Derived.KernelRfl
namespace Go.Proofs.Ytklkhlipecphkaa
/- THE CELL 'sum', in the pinned program and in every row, IS THE sha256 OF THE DUMP (.gsa) THAT YtklkhlipecphkaaProg.lean LOADS. Nothing in Lean hashes anything: it is a label: what it is worth is what the hold of that sum in a sandbox is worth. -/
noncomputable def Try.pinned : Pinned := { name := "ytklkhlipecphkaa", sum := "d95c1650a6aab87909eb7e51b981debbba6703999bb72cad1ba40d7d8adedabf", checked := Try.checked }
namespace Rows
def none {H : Type} : Left H := { results := [], args := [] }

/-- 'regattalaw21.RetryWaits': WHATEVER THE INPUT: true; the input reads as it did. -/
def retryWaitsSpec : ChangeSpec := { name := "retryWaits", fn := fun _ => fun
  | [d1, d2, d3] => { results := [.lit (.bool true)], args := [d1, d2, d3] }
  | _ => none }
def retryWaitsRow : OpenClaim := { program := "ytklkhlipecphkaa", sum := "d95c1650a6aab87909eb7e51b981debbba6703999bb72cad1ba40d7d8adedabf", func := "regatta/regattalaw21.RetryWaits", spec := "retryWaits", plainKeys := false, apart := false }
def RetryWaitsSaid : Prop := retryWaitsRow.holds Try.pinned (OpenSpec.ofChange retryWaitsSpec)

/-- ITS FALSE NEIGHBOUR: 'it returns false'. Refute it at one input. -/
def retryWaitsWrong : ChangeSpec := { name := "retryWaits", fn := fun _ => fun
  | [d1, d2, d3] => { results := [.lit (.bool false)], args := [d1, d2, d3] }
  | _ => none }
def RetryWaitsWrongFalsely : Prop := retryWaitsRow.holds Try.pinned (OpenSpec.ofChange retryWaitsWrong)

/-- 'regattalaw19.LinkRows': WHATEVER THE INPUT: true; the input reads as it did. -/
def linkRowsSpec : ChangeSpec := { name := "linkRows", fn := fun _ => fun
  | [d1, d2, d3] => { results := [.lit (.bool true)], args := [d1, d2, d3] }
  | _ => none }
def linkRowsRow : OpenClaim := { program := "ytklkhlipecphkaa", sum := "d95c1650a6aab87909eb7e51b981debbba6703999bb72cad1ba40d7d8adedabf", func := "regatta/regattalaw19.LinkRows", spec := "linkRows", plainKeys := false, apart := false }
def LinkRowsSaid : Prop := linkRowsRow.holds Try.pinned (OpenSpec.ofChange linkRowsSpec)

/-- ITS FALSE NEIGHBOUR: 'it returns false'. Refute it at one input. -/
def linkRowsWrong : ChangeSpec := { name := "linkRows", fn := fun _ => fun
  | [d1, d2, d3] => { results := [.lit (.bool false)], args := [d1, d2, d3] }
  | _ => none }
def LinkRowsWrongFalsely : Prop := linkRowsRow.holds Try.pinned (OpenSpec.ofChange linkRowsWrong)

/-- 'regattalaw21.RetryApart': WHATEVER THE INPUT: true; the input reads as it did. -/
def retryApartSpec : ChangeSpec := { name := "retryApart", fn := fun _ => fun
  | [d1, d2, d3] => { results := [.lit (.bool true)], args := [d1, d2, d3] }
  | _ => none }
def retryApartRow : OpenClaim := { program := "ytklkhlipecphkaa", sum := "d95c1650a6aab87909eb7e51b981debbba6703999bb72cad1ba40d7d8adedabf", func := "regatta/regattalaw21.RetryApart", spec := "retryApart", plainKeys := false, apart := false }
def RetryApartSaid : Prop := retryApartRow.holds Try.pinned (OpenSpec.ofChange retryApartSpec)

/-- ITS FALSE NEIGHBOUR: 'it returns false'. Refute it at one input. -/
def retryApartWrong : ChangeSpec := { name := "retryApart", fn := fun _ => fun
  | [d1, d2, d3] => { results := [.lit (.bool false)], args := [d1, d2, d3] }
  | _ => none }
def RetryApartWrongFalsely : Prop := retryApartRow.holds Try.pinned (OpenSpec.ofChange retryApartWrong)

/-- 'regattalaw19.LinkFlips': WHATEVER THE INPUT: true; the input reads as it did. -/
def linkFlipsSpec : ChangeSpec := { name := "linkFlips", fn := fun _ => fun
  | [d1, d2, d3] => { results := [.lit (.bool true)], args := [d1, d2, d3] }
  | _ => none }
def linkFlipsRow : OpenClaim := { program := "ytklkhlipecphkaa", sum := "d95c1650a6aab87909eb7e51b981debbba6703999bb72cad1ba40d7d8adedabf", func := "regatta/regattalaw19.LinkFlips", spec := "linkFlips", plainKeys := false, apart := false }
def LinkFlipsSaid : Prop := linkFlipsRow.holds Try.pinned (OpenSpec.ofChange linkFlipsSpec)

/-- ITS FALSE NEIGHBOUR: 'it returns false'. Refute it at one input. -/
def linkFlipsWrong : ChangeSpec := { name := "linkFlips", fn := fun _ => fun
  | [d1, d2, d3] => { results := [.lit (.bool false)], args := [d1, d2, d3] }
  | _ => none }
def LinkFlipsWrongFalsely : Prop := linkFlipsRow.holds Try.pinned (OpenSpec.ofChange linkFlipsWrong)

/-- 'regattalaw21.RetryCaps': WHATEVER THE INPUT: true; the input reads as it did. -/
def retryCapsSpec : ChangeSpec := { name := "retryCaps", fn := fun _ => fun
  | [d1, d2] => { results := [.lit (.bool true)], args := [d1, d2] }
  | _ => none }
def retryCapsRow : OpenClaim := { program := "ytklkhlipecphkaa", sum := "d95c1650a6aab87909eb7e51b981debbba6703999bb72cad1ba40d7d8adedabf", func := "regatta/regattalaw21.RetryCaps", spec := "retryCaps", plainKeys := false, apart := false }
def RetryCapsSaid : Prop := retryCapsRow.holds Try.pinned (OpenSpec.ofChange retryCapsSpec)

/-- ITS FALSE NEIGHBOUR: 'it returns false'. Refute it at one input. -/
def retryCapsWrong : ChangeSpec := { name := "retryCaps", fn := fun _ => fun
  | [d1, d2] => { results := [.lit (.bool false)], args := [d1, d2] }
  | _ => none }
def RetryCapsWrongFalsely : Prop := retryCapsRow.holds Try.pinned (OpenSpec.ofChange retryCapsWrong)

/-- 'regattalaw21.RetryClocks': WHATEVER THE INPUT: true; the input reads as it did. -/
def retryClocksSpec : ChangeSpec := { name := "retryClocks", fn := fun _ => fun
  | [d1, d2, d3] => { results := [.lit (.bool true)], args := [d1, d2, d3] }
  | _ => none }
def retryClocksRow : OpenClaim := { program := "ytklkhlipecphkaa", sum := "d95c1650a6aab87909eb7e51b981debbba6703999bb72cad1ba40d7d8adedabf", func := "regatta/regattalaw21.RetryClocks", spec := "retryClocks", plainKeys := false, apart := false }
def RetryClocksSaid : Prop := retryClocksRow.holds Try.pinned (OpenSpec.ofChange retryClocksSpec)

/-- ITS FALSE NEIGHBOUR: 'it returns false'. Refute it at one input. -/
def retryClocksWrong : ChangeSpec := { name := "retryClocks", fn := fun _ => fun
  | [d1, d2, d3] => { results := [.lit (.bool false)], args := [d1, d2, d3] }
  | _ => none }
def RetryClocksWrongFalsely : Prop := retryClocksRow.holds Try.pinned (OpenSpec.ofChange retryClocksWrong)

/-- 'regattalaw21.RetryNone': WHATEVER THE INPUT: true; the input reads as it did. -/
def retryNoneSpec : ChangeSpec := { name := "retryNone", fn := fun _ => fun
  | [d1, d2] => { results := [.lit (.bool true)], args := [d1, d2] }
  | _ => none }
def retryNoneRow : OpenClaim := { program := "ytklkhlipecphkaa", sum := "d95c1650a6aab87909eb7e51b981debbba6703999bb72cad1ba40d7d8adedabf", func := "regatta/regattalaw21.RetryNone", spec := "retryNone", plainKeys := false, apart := false }
def RetryNoneSaid : Prop := retryNoneRow.holds Try.pinned (OpenSpec.ofChange retryNoneSpec)

/-- ITS FALSE NEIGHBOUR: 'it returns false'. Refute it at one input. -/
def retryNoneWrong : ChangeSpec := { name := "retryNone", fn := fun _ => fun
  | [d1, d2] => { results := [.lit (.bool false)], args := [d1, d2] }
  | _ => none }
def RetryNoneWrongFalsely : Prop := retryNoneRow.holds Try.pinned (OpenSpec.ofChange retryNoneWrong)

/-- 'regattalaw19.LinkPlays': WHATEVER THE INPUT: true; the input reads as it did. -/
def linkPlaysSpec : ChangeSpec := { name := "linkPlays", fn := fun _ => fun
  | [d1, d2, d3] => { results := [.lit (.bool true)], args := [d1, d2, d3] }
  | _ => none }
def linkPlaysRow : OpenClaim := { program := "ytklkhlipecphkaa", sum := "d95c1650a6aab87909eb7e51b981debbba6703999bb72cad1ba40d7d8adedabf", func := "regatta/regattalaw19.LinkPlays", spec := "linkPlays", plainKeys := false, apart := false }
def LinkPlaysSaid : Prop := linkPlaysRow.holds Try.pinned (OpenSpec.ofChange linkPlaysSpec)

/-- ITS FALSE NEIGHBOUR: 'it returns false'. Refute it at one input. -/
def linkPlaysWrong : ChangeSpec := { name := "linkPlays", fn := fun _ => fun
  | [d1, d2, d3] => { results := [.lit (.bool false)], args := [d1, d2, d3] }
  | _ => none }
def LinkPlaysWrongFalsely : Prop := linkPlaysRow.holds Try.pinned (OpenSpec.ofChange linkPlaysWrong)

/-- 'regattalaw19.LinkNone': WHATEVER THE INPUT: true; the input reads as it did. -/
def linkNoneSpec : ChangeSpec := { name := "linkNone", fn := fun _ => fun
  | [d] => { results := [.lit (.bool true)], args := [d] }
  | _ => none }
def linkNoneRow : OpenClaim := { program := "ytklkhlipecphkaa", sum := "d95c1650a6aab87909eb7e51b981debbba6703999bb72cad1ba40d7d8adedabf", func := "regatta/regattalaw19.LinkNone", spec := "linkNone", plainKeys := false, apart := false }
def LinkNoneSaid : Prop := linkNoneRow.holds Try.pinned (OpenSpec.ofChange linkNoneSpec)

/-- ITS FALSE NEIGHBOUR: 'it returns false'. Refute it at one input. -/
def linkNoneWrong : ChangeSpec := { name := "linkNone", fn := fun _ => fun
  | [d] => { results := [.lit (.bool false)], args := [d] }
  | _ => none }
def LinkNoneWrongFalsely : Prop := linkNoneRow.holds Try.pinned (OpenSpec.ofChange linkNoneWrong)

/- THE SECOND FORM. 'bulk': how many values and letters a reading holds, each counted each time it is reached (what is shared counts as often as it is met; a slice's spare places count too). A statement '..UptoSaid' is the law's where the arguments, and the package variables that the reading takes, are together of bulk at most 1048576: NARROWER than '..Said'. Prove '..Said' where nothing that the law and all that it calls make is longer than what came in: it says more and counts as full. Else prove '..UptoSaid'. A law counts once. -/
mutual
def uptoBulk {H : Type} : DataW H → Nat
  | .lit (.string bytes) => bytes.length + 1
  | .lit _ => 1
  | .nil => 1
  | .ptr d => uptoBulk d + 1
  | .slice elems spare => uptoBulkAll elems + uptoBulkAll spare + 1
  | .agg parts => uptoBulkAll parts + 1
  | .iface _ d => uptoBulk d + 1
  | .map entries => uptoBulkEntries entries + 1
  | .held _ => 1
def uptoBulkAll {H : Type} : List (DataW H) → Nat
  | [] => 0
  | d :: r => uptoBulk d + uptoBulkAll r
def uptoBulkEntries {H : Type} : List (Lit × DataW H) → Nat
  | [] => 0
  | x :: r => uptoBulkEntry x + uptoBulkEntries r
def uptoBulkEntry {H : Type} : Lit × DataW H → Nat
  | (.string bytes, d) => bytes.length + uptoBulk d + 1
  | (_, d) => uptoBulk d + 1
 end
def uptoSmall : (H : Type) → List (DataW H) → Bool := fun _ ds => decide (uptoBulkAll ds ≤ 1048576)
def OpenSpec.upto (s : _root_.Go.ChangeSpec) : _root_.Go.OpenSpec := { _root_.Go.OpenSpec.ofChange s with cond := some uptoSmall }

/-- 'regattalaw21.RetryWaits', WHERE WHAT IT READS IS OF BULK AT MOST 1048576: true; the input reads as it did. -/
def retryWaitsUptoRow : OpenClaim := { program := "ytklkhlipecphkaa", sum := "d95c1650a6aab87909eb7e51b981debbba6703999bb72cad1ba40d7d8adedabf", func := "regatta/regattalaw21.RetryWaits", spec := "retryWaits", plainKeys := false, apart := false, narrowed := true }
def RetryWaitsUptoSaid : Prop := retryWaitsUptoRow.holds Try.pinned (OpenSpec.upto retryWaitsSpec)

/-- 'regattalaw19.LinkRows', WHERE WHAT IT READS IS OF BULK AT MOST 1048576: true; the input reads as it did. -/
def linkRowsUptoRow : OpenClaim := { program := "ytklkhlipecphkaa", sum := "d95c1650a6aab87909eb7e51b981debbba6703999bb72cad1ba40d7d8adedabf", func := "regatta/regattalaw19.LinkRows", spec := "linkRows", plainKeys := false, apart := false, narrowed := true }
def LinkRowsUptoSaid : Prop := linkRowsUptoRow.holds Try.pinned (OpenSpec.upto linkRowsSpec)

/-- 'regattalaw21.RetryApart', WHERE WHAT IT READS IS OF BULK AT MOST 1048576: true; the input reads as it did. -/
def retryApartUptoRow : OpenClaim := { program := "ytklkhlipecphkaa", sum := "d95c1650a6aab87909eb7e51b981debbba6703999bb72cad1ba40d7d8adedabf", func := "regatta/regattalaw21.RetryApart", spec := "retryApart", plainKeys := false, apart := false, narrowed := true }
def RetryApartUptoSaid : Prop := retryApartUptoRow.holds Try.pinned (OpenSpec.upto retryApartSpec)

/-- 'regattalaw19.LinkFlips', WHERE WHAT IT READS IS OF BULK AT MOST 1048576: true; the input reads as it did. -/
def linkFlipsUptoRow : OpenClaim := { program := "ytklkhlipecphkaa", sum := "d95c1650a6aab87909eb7e51b981debbba6703999bb72cad1ba40d7d8adedabf", func := "regatta/regattalaw19.LinkFlips", spec := "linkFlips", plainKeys := false, apart := false, narrowed := true }
def LinkFlipsUptoSaid : Prop := linkFlipsUptoRow.holds Try.pinned (OpenSpec.upto linkFlipsSpec)

/-- 'regattalaw21.RetryCaps', WHERE WHAT IT READS IS OF BULK AT MOST 1048576: true; the input reads as it did. -/
def retryCapsUptoRow : OpenClaim := { program := "ytklkhlipecphkaa", sum := "d95c1650a6aab87909eb7e51b981debbba6703999bb72cad1ba40d7d8adedabf", func := "regatta/regattalaw21.RetryCaps", spec := "retryCaps", plainKeys := false, apart := false, narrowed := true }
def RetryCapsUptoSaid : Prop := retryCapsUptoRow.holds Try.pinned (OpenSpec.upto retryCapsSpec)

/-- 'regattalaw21.RetryClocks', WHERE WHAT IT READS IS OF BULK AT MOST 1048576: true; the input reads as it did. -/
def retryClocksUptoRow : OpenClaim := { program := "ytklkhlipecphkaa", sum := "d95c1650a6aab87909eb7e51b981debbba6703999bb72cad1ba40d7d8adedabf", func := "regatta/regattalaw21.RetryClocks", spec := "retryClocks", plainKeys := false, apart := false, narrowed := true }
def RetryClocksUptoSaid : Prop := retryClocksUptoRow.holds Try.pinned (OpenSpec.upto retryClocksSpec)

/-- 'regattalaw21.RetryNone', WHERE WHAT IT READS IS OF BULK AT MOST 1048576: true; the input reads as it did. -/
def retryNoneUptoRow : OpenClaim := { program := "ytklkhlipecphkaa", sum := "d95c1650a6aab87909eb7e51b981debbba6703999bb72cad1ba40d7d8adedabf", func := "regatta/regattalaw21.RetryNone", spec := "retryNone", plainKeys := false, apart := false, narrowed := true }
def RetryNoneUptoSaid : Prop := retryNoneUptoRow.holds Try.pinned (OpenSpec.upto retryNoneSpec)

/-- 'regattalaw19.LinkPlays', WHERE WHAT IT READS IS OF BULK AT MOST 1048576: true; the input reads as it did. -/
def linkPlaysUptoRow : OpenClaim := { program := "ytklkhlipecphkaa", sum := "d95c1650a6aab87909eb7e51b981debbba6703999bb72cad1ba40d7d8adedabf", func := "regatta/regattalaw19.LinkPlays", spec := "linkPlays", plainKeys := false, apart := false, narrowed := true }
def LinkPlaysUptoSaid : Prop := linkPlaysUptoRow.holds Try.pinned (OpenSpec.upto linkPlaysSpec)

/-- 'regattalaw19.LinkNone', WHERE WHAT IT READS IS OF BULK AT MOST 1048576: true; the input reads as it did. -/
def linkNoneUptoRow : OpenClaim := { program := "ytklkhlipecphkaa", sum := "d95c1650a6aab87909eb7e51b981debbba6703999bb72cad1ba40d7d8adedabf", func := "regatta/regattalaw19.LinkNone", spec := "linkNone", plainKeys := false, apart := false, narrowed := true }
def LinkNoneUptoSaid : Prop := linkNoneUptoRow.holds Try.pinned (OpenSpec.upto linkNoneSpec)

end Rows
end Go.Proofs.Ytklkhlipecphkaa
