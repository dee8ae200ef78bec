/-
  No cell of these rows narrows 'for every input' (looked for: loops, veiled, ifaces, maps, wideKeys, modest, calm, conditions, laid).
  DERIVED. THE GIVEN ROWS OF THIS SEAT. 12 by the template 'for every input the law returns true; each argument reads behind the call as it read before'; 0 by the template 'total and deterministic' (their statements: YtcojiienmmmihaaTotals.lean).
  GIVEN WITH THE SEED: the statements are not yours to turn. If you find one false, say at which input.
  Laid BY PROGRAM, IN A SANDBOX (cutbox-rows.mjs): the forced cells as the released guide's own fill.sh prints them over the translation dbe2601ff5fe6141… (all of the seat's roots in one cut). By AI agents, Wed Nov 11 2026. No macro, syntax, notation, axiom, sorry.
-/
import Derived.Test.YtcojiienmmmihaaChecked
import GoSem.Claim
import GoSem.ClaimJoined
import GoSem.ClaimMapViews
import Derived.JoinedTies
import Derived.KernelRfl
namespace Go.Proofs.Ytcojiienmmmihaa
/- THE CELL 'sum', in the pinned program and in every row, IS THE sha256 OF THE DUMP (.gsa) THAT YtcojiienmmmihaaProg.lean LOADS. Nothing in Lean hashes anything: it is a label: what it is worth is what the hold of that sum in a sandbox is worth. -/
noncomputable def Try.pinned : Pinned := { name := "ytcojiienmmmihaa", sum := "dbe2601ff5fe6141ae1ecc25b0756f81f45a240fb9d9a4b0cd7076b70366ae4b", checked := Try.checked }
namespace Rows
def none {H : Type} : Left H := { results := [], args := [] }

/-- 'regattalaw05.RandWords': WHATEVER THE INPUT: true; the input reads as it did. -/
def randWordsSpec : ChangeSpec := { name := "randWords", fn := fun _ => fun
  | [d1, d2] => { results := [.lit (.bool true)], args := [d1, d2] }
  | _ => none }
def randWordsRow : OpenClaim := { program := "ytcojiienmmmihaa", sum := "dbe2601ff5fe6141ae1ecc25b0756f81f45a240fb9d9a4b0cd7076b70366ae4b", func := "regatta/regattalaw05.RandWords", spec := "randWords", apart := false }
def RandWordsSaid : Prop := randWordsRow.holds Try.pinned (OpenSpec.ofChange randWordsSpec)

/-- ITS FALSE NEIGHBOUR: 'it returns false'. Refute it at one input. -/
def randWordsWrong : ChangeSpec := { name := "randWords", fn := fun _ => fun
  | [d1, d2] => { results := [.lit (.bool false)], args := [d1, d2] }
  | _ => none }
def RandWordsWrongFalsely : Prop := randWordsRow.holds Try.pinned (OpenSpec.ofChange randWordsWrong)

/-- 'regattalaw05.RandBelow': WHATEVER THE INPUT: true; the input reads as it did. -/
def randBelowSpec : ChangeSpec := { name := "randBelow", fn := fun _ => fun
  | [d1, d2, d3] => { results := [.lit (.bool true)], args := [d1, d2, d3] }
  | _ => none }
def randBelowRow : OpenClaim := { program := "ytcojiienmmmihaa", sum := "dbe2601ff5fe6141ae1ecc25b0756f81f45a240fb9d9a4b0cd7076b70366ae4b", func := "regatta/regattalaw05.RandBelow", spec := "randBelow", apart := false }
def RandBelowSaid : Prop := randBelowRow.holds Try.pinned (OpenSpec.ofChange randBelowSpec)

/-- ITS FALSE NEIGHBOUR: 'it returns false'. Refute it at one input. -/
def randBelowWrong : ChangeSpec := { name := "randBelow", fn := fun _ => fun
  | [d1, d2, d3] => { results := [.lit (.bool false)], args := [d1, d2, d3] }
  | _ => none }
def RandBelowWrongFalsely : Prop := randBelowRow.holds Try.pinned (OpenSpec.ofChange randBelowWrong)

/-- 'regattalaw05.RandPerms': WHATEVER THE INPUT: true; the input reads as it did. -/
def randPermsSpec : ChangeSpec := { name := "randPerms", fn := fun _ => fun
  | [d1, d2] => { results := [.lit (.bool true)], args := [d1, d2] }
  | _ => none }
def randPermsRow : OpenClaim := { program := "ytcojiienmmmihaa", sum := "dbe2601ff5fe6141ae1ecc25b0756f81f45a240fb9d9a4b0cd7076b70366ae4b", func := "regatta/regattalaw05.RandPerms", spec := "randPerms", apart := false }
def RandPermsSaid : Prop := randPermsRow.holds Try.pinned (OpenSpec.ofChange randPermsSpec)

/-- ITS FALSE NEIGHBOUR: 'it returns false'. Refute it at one input. -/
def randPermsWrong : ChangeSpec := { name := "randPerms", fn := fun _ => fun
  | [d1, d2] => { results := [.lit (.bool false)], args := [d1, d2] }
  | _ => none }
def RandPermsWrongFalsely : Prop := randPermsRow.holds Try.pinned (OpenSpec.ofChange randPermsWrong)

/-- 'regattalaw05.RandOrders': WHATEVER THE INPUT: true; the input reads as it did. -/
def randOrdersSpec : ChangeSpec := { name := "randOrders", fn := fun _ => fun
  | [d1, d2] => { results := [.lit (.bool true)], args := [d1, d2] }
  | _ => none }
def randOrdersRow : OpenClaim := { program := "ytcojiienmmmihaa", sum := "dbe2601ff5fe6141ae1ecc25b0756f81f45a240fb9d9a4b0cd7076b70366ae4b", func := "regatta/regattalaw05.RandOrders", spec := "randOrders", apart := false }
def RandOrdersSaid : Prop := randOrdersRow.holds Try.pinned (OpenSpec.ofChange randOrdersSpec)

/-- ITS FALSE NEIGHBOUR: 'it returns false'. Refute it at one input. -/
def randOrdersWrong : ChangeSpec := { name := "randOrders", fn := fun _ => fun
  | [d1, d2] => { results := [.lit (.bool false)], args := [d1, d2] }
  | _ => none }
def RandOrdersWrongFalsely : Prop := randOrdersRow.holds Try.pinned (OpenSpec.ofChange randOrdersWrong)

/-- 'regattalaw05.RandBetween': WHATEVER THE INPUT: true; the input reads as it did. -/
def randBetweenSpec : ChangeSpec := { name := "randBetween", fn := fun _ => fun
  | [d1, d2] => { results := [.lit (.bool true)], args := [d1, d2] }
  | _ => none }
def randBetweenRow : OpenClaim := { program := "ytcojiienmmmihaa", sum := "dbe2601ff5fe6141ae1ecc25b0756f81f45a240fb9d9a4b0cd7076b70366ae4b", func := "regatta/regattalaw05.RandBetween", spec := "randBetween", inPlace := ["math/bits.Add64"], apart := false }
def RandBetweenSaid : Prop := randBetweenRow.holds Try.pinned (OpenSpec.ofChange randBetweenSpec)

/-- ITS FALSE NEIGHBOUR: 'it returns false'. Refute it at one input. -/
def randBetweenWrong : ChangeSpec := { name := "randBetween", fn := fun _ => fun
  | [d1, d2] => { results := [.lit (.bool false)], args := [d1, d2] }
  | _ => none }
def RandBetweenWrongFalsely : Prop := randBetweenRow.holds Try.pinned (OpenSpec.ofChange randBetweenWrong)

/-- 'regattalaw05.RandPlaces': WHATEVER THE INPUT: true; the input reads as it did. -/
def randPlacesSpec : ChangeSpec := { name := "randPlaces", fn := fun _ => fun
  | [d1, d2, d3] => { results := [.lit (.bool true)], args := [d1, d2, d3] }
  | _ => none }
def randPlacesRow : OpenClaim := { program := "ytcojiienmmmihaa", sum := "dbe2601ff5fe6141ae1ecc25b0756f81f45a240fb9d9a4b0cd7076b70366ae4b", func := "regatta/regattalaw05.RandPlaces", spec := "randPlaces", unfollowed := true, recurses := true, apart := false }
def RandPlacesSaid : Prop := randPlacesRow.holds Try.pinned (OpenSpec.ofChange randPlacesSpec)

/-- ITS FALSE NEIGHBOUR: 'it returns false'. Refute it at one input. -/
def randPlacesWrong : ChangeSpec := { name := "randPlaces", fn := fun _ => fun
  | [d1, d2, d3] => { results := [.lit (.bool false)], args := [d1, d2, d3] }
  | _ => none }
def RandPlacesWrongFalsely : Prop := randPlacesRow.holds Try.pinned (OpenSpec.ofChange randPlacesWrong)

/-- 'regattalaw05.RandOnce': WHATEVER THE INPUT: true; the input reads as it did. -/
def randOnceSpec : ChangeSpec := { name := "randOnce", fn := fun _ => fun
  | [d1, d2] => { results := [.lit (.bool true)], args := [d1, d2] }
  | _ => none }
def randOnceRow : OpenClaim := { program := "ytcojiienmmmihaa", sum := "dbe2601ff5fe6141ae1ecc25b0756f81f45a240fb9d9a4b0cd7076b70366ae4b", func := "regatta/regattalaw05.RandOnce", spec := "randOnce", unfollowed := true, recurses := true, apart := false }
def RandOnceSaid : Prop := randOnceRow.holds Try.pinned (OpenSpec.ofChange randOnceSpec)

/-- ITS FALSE NEIGHBOUR: 'it returns false'. Refute it at one input. -/
def randOnceWrong : ChangeSpec := { name := "randOnce", fn := fun _ => fun
  | [d1, d2] => { results := [.lit (.bool false)], args := [d1, d2] }
  | _ => none }
def RandOnceWrongFalsely : Prop := randOnceRow.holds Try.pinned (OpenSpec.ofChange randOnceWrong)

/-- 'regattalaw06.DataOwns': WHATEVER THE INPUT: true; the input reads as it did. -/
def dataOwnsSpec : ChangeSpec := { name := "dataOwns", fn := fun _ => fun
  | [d] => { results := [.lit (.bool true)], args := [d] }
  | _ => none }
def dataOwnsRow : OpenClaim := { program := "ytcojiienmmmihaa", sum := "dbe2601ff5fe6141ae1ecc25b0756f81f45a240fb9d9a4b0cd7076b70366ae4b", func := "regatta/regattalaw06.DataOwns", spec := "dataOwns", unfollowed := true, recurses := true, apart := false }
def DataOwnsSaid : Prop := dataOwnsRow.holds Try.pinned (OpenSpec.ofChange dataOwnsSpec)

/-- ITS FALSE NEIGHBOUR: 'it returns false'. Refute it at one input. -/
def dataOwnsWrong : ChangeSpec := { name := "dataOwns", fn := fun _ => fun
  | [d] => { results := [.lit (.bool false)], args := [d] }
  | _ => none }
def DataOwnsWrongFalsely : Prop := dataOwnsRow.holds Try.pinned (OpenSpec.ofChange dataOwnsWrong)

/-- 'regattalaw06.DataBatches': WHATEVER THE INPUT: true; the input reads as it did. -/
def dataBatchesSpec : ChangeSpec := { name := "dataBatches", fn := fun _ => fun
  | [d1, d2] => { results := [.lit (.bool true)], args := [d1, d2] }
  | _ => none }
def dataBatchesRow : OpenClaim := { program := "ytcojiienmmmihaa", sum := "dbe2601ff5fe6141ae1ecc25b0756f81f45a240fb9d9a4b0cd7076b70366ae4b", func := "regatta/regattalaw06.DataBatches", spec := "dataBatches", unfollowed := true, recurses := true, apart := false }
def DataBatchesSaid : Prop := dataBatchesRow.holds Try.pinned (OpenSpec.ofChange dataBatchesSpec)

/-- ITS FALSE NEIGHBOUR: 'it returns false'. Refute it at one input. -/
def dataBatchesWrong : ChangeSpec := { name := "dataBatches", fn := fun _ => fun
  | [d1, d2] => { results := [.lit (.bool false)], args := [d1, d2] }
  | _ => none }
def DataBatchesWrongFalsely : Prop := dataBatchesRow.holds Try.pinned (OpenSpec.ofChange dataBatchesWrong)

/-- 'regattalaw06.DataPasses': WHATEVER THE INPUT: true; the input reads as it did. -/
def dataPassesSpec : ChangeSpec := { name := "dataPasses", fn := fun _ => fun
  | [d1, d2] => { results := [.lit (.bool true)], args := [d1, d2] }
  | _ => none }
def dataPassesRow : OpenClaim := { program := "ytcojiienmmmihaa", sum := "dbe2601ff5fe6141ae1ecc25b0756f81f45a240fb9d9a4b0cd7076b70366ae4b", func := "regatta/regattalaw06.DataPasses", spec := "dataPasses", unfollowed := true, recurses := true, apart := false }
def DataPassesSaid : Prop := dataPassesRow.holds Try.pinned (OpenSpec.ofChange dataPassesSpec)

/-- ITS FALSE NEIGHBOUR: 'it returns false'. Refute it at one input. -/
def dataPassesWrong : ChangeSpec := { name := "dataPasses", fn := fun _ => fun
  | [d1, d2] => { results := [.lit (.bool false)], args := [d1, d2] }
  | _ => none }
def DataPassesWrongFalsely : Prop := dataPassesRow.holds Try.pinned (OpenSpec.ofChange dataPassesWrong)

/-- 'regattalaw06.DataOwners': WHATEVER THE INPUT: true; the input reads as it did. -/
def dataOwnersSpec : ChangeSpec := { name := "dataOwners", fn := fun _ => fun
  | [d1, d2] => { results := [.lit (.bool true)], args := [d1, d2] }
  | _ => none }
def dataOwnersRow : OpenClaim := { program := "ytcojiienmmmihaa", sum := "dbe2601ff5fe6141ae1ecc25b0756f81f45a240fb9d9a4b0cd7076b70366ae4b", func := "regatta/regattalaw06.DataOwners", spec := "dataOwners", unfollowed := true, recurses := true, apart := false }
def DataOwnersSaid : Prop := dataOwnersRow.holds Try.pinned (OpenSpec.ofChange dataOwnersSpec)

/-- ITS FALSE NEIGHBOUR: 'it returns false'. Refute it at one input. -/
def dataOwnersWrong : ChangeSpec := { name := "dataOwners", fn := fun _ => fun
  | [d1, d2] => { results := [.lit (.bool false)], args := [d1, d2] }
  | _ => none }
def DataOwnersWrongFalsely : Prop := dataOwnersRow.holds Try.pinned (OpenSpec.ofChange dataOwnersWrong)

/-- 'regattalaw06.DataShards': WHATEVER THE INPUT: true; the input reads as it did. -/
def dataShardsSpec : ChangeSpec := { name := "dataShards", fn := fun _ => fun
  | [d] => { results := [.lit (.bool true)], args := [d] }
  | _ => none }
def dataShardsRow : OpenClaim := { program := "ytcojiienmmmihaa", sum := "dbe2601ff5fe6141ae1ecc25b0756f81f45a240fb9d9a4b0cd7076b70366ae4b", func := "regatta/regattalaw06.DataShards", spec := "dataShards", unfollowed := true, recurses := true, apart := false }
def DataShardsSaid : Prop := dataShardsRow.holds Try.pinned (OpenSpec.ofChange dataShardsSpec)

/-- ITS FALSE NEIGHBOUR: 'it returns false'. Refute it at one input. -/
def dataShardsWrong : ChangeSpec := { name := "dataShards", fn := fun _ => fun
  | [d] => { results := [.lit (.bool false)], args := [d] }
  | _ => none }
def DataShardsWrongFalsely : Prop := dataShardsRow.holds Try.pinned (OpenSpec.ofChange dataShardsWrong)

/- THE SECOND FORM. 'bulk': how many values and letters a reading holds, each counted each time it is reached (what is shared counts as often as it is met; a slice's spare places count too). A statement '..UptoSaid' is the law's where the arguments, and the package variables that the reading takes, are together of bulk at most 1048576: NARROWER than '..Said'. Prove '..Said' where nothing that the law and all that it calls make is longer than what came in: it says more and counts as full. Else prove '..UptoSaid'. A law counts once. -/
mutual
def uptoBulk {H : Type} : DataW H → Nat
  | .lit (.string bytes) => bytes.length + 1
  | .lit _ => 1
  | .nil => 1
  | .ptr d => uptoBulk d + 1
  | .slice elems spare => uptoBulkAll elems + uptoBulkAll spare + 1
  | .agg parts => uptoBulkAll parts + 1
  | .iface _ d => uptoBulk d + 1
  | .map entries => uptoBulkEntries entries + 1
  | .held _ => 1
def uptoBulkAll {H : Type} : List (DataW H) → Nat
  | [] => 0
  | d :: r => uptoBulk d + uptoBulkAll r
def uptoBulkEntries {H : Type} : List (Lit × DataW H) → Nat
  | [] => 0
  | x :: r => uptoBulkEntry x + uptoBulkEntries r
def uptoBulkEntry {H : Type} : Lit × DataW H → Nat
  | (.string bytes, d) => bytes.length + uptoBulk d + 1
  | (_, d) => uptoBulk d + 1
 end
def uptoSmall : (H : Type) → List (DataW H) → Bool := fun _ ds => decide (uptoBulkAll ds ≤ 1048576)
def OpenSpec.upto (s : _root_.Go.ChangeSpec) : _root_.Go.OpenSpec := { _root_.Go.OpenSpec.ofChange s with cond := some uptoSmall }

/-- 'regattalaw05.RandWords', WHERE WHAT IT READS IS OF BULK AT MOST 1048576: true; the input reads as it did. -/
def randWordsUptoRow : OpenClaim := { program := "ytcojiienmmmihaa", sum := "dbe2601ff5fe6141ae1ecc25b0756f81f45a240fb9d9a4b0cd7076b70366ae4b", func := "regatta/regattalaw05.RandWords", spec := "randWords", apart := false, narrowed := true }
def RandWordsUptoSaid : Prop := randWordsUptoRow.holds Try.pinned (OpenSpec.upto randWordsSpec)

/-- 'regattalaw05.RandBelow', WHERE WHAT IT READS IS OF BULK AT MOST 1048576: true; the input reads as it did. -/
def randBelowUptoRow : OpenClaim := { program := "ytcojiienmmmihaa", sum := "dbe2601ff5fe6141ae1ecc25b0756f81f45a240fb9d9a4b0cd7076b70366ae4b", func := "regatta/regattalaw05.RandBelow", spec := "randBelow", apart := false, narrowed := true }
def RandBelowUptoSaid : Prop := randBelowUptoRow.holds Try.pinned (OpenSpec.upto randBelowSpec)

/-- 'regattalaw05.RandPerms', WHERE WHAT IT READS IS OF BULK AT MOST 1048576: true; the input reads as it did. -/
def randPermsUptoRow : OpenClaim := { program := "ytcojiienmmmihaa", sum := "dbe2601ff5fe6141ae1ecc25b0756f81f45a240fb9d9a4b0cd7076b70366ae4b", func := "regatta/regattalaw05.RandPerms", spec := "randPerms", apart := false, narrowed := true }
def RandPermsUptoSaid : Prop := randPermsUptoRow.holds Try.pinned (OpenSpec.upto randPermsSpec)

/-- 'regattalaw05.RandOrders', WHERE WHAT IT READS IS OF BULK AT MOST 1048576: true; the input reads as it did. -/
def randOrdersUptoRow : OpenClaim := { program := "ytcojiienmmmihaa", sum := "dbe2601ff5fe6141ae1ecc25b0756f81f45a240fb9d9a4b0cd7076b70366ae4b", func := "regatta/regattalaw05.RandOrders", spec := "randOrders", apart := false, narrowed := true }
def RandOrdersUptoSaid : Prop := randOrdersUptoRow.holds Try.pinned (OpenSpec.upto randOrdersSpec)

/-- 'regattalaw05.RandBetween', WHERE WHAT IT READS IS OF BULK AT MOST 1048576: true; the input reads as it did. -/
def randBetweenUptoRow : OpenClaim := { program := "ytcojiienmmmihaa", sum := "dbe2601ff5fe6141ae1ecc25b0756f81f45a240fb9d9a4b0cd7076b70366ae4b", func := "regatta/regattalaw05.RandBetween", spec := "randBetween", inPlace := ["math/bits.Add64"], apart := false, narrowed := true }
def RandBetweenUptoSaid : Prop := randBetweenUptoRow.holds Try.pinned (OpenSpec.upto randBetweenSpec)

/-- 'regattalaw05.RandPlaces', WHERE WHAT IT READS IS OF BULK AT MOST 1048576: true; the input reads as it did. -/
def randPlacesUptoRow : OpenClaim := { program := "ytcojiienmmmihaa", sum := "dbe2601ff5fe6141ae1ecc25b0756f81f45a240fb9d9a4b0cd7076b70366ae4b", func := "regatta/regattalaw05.RandPlaces", spec := "randPlaces", unfollowed := true, recurses := true, apart := false, narrowed := true }
def RandPlacesUptoSaid : Prop := randPlacesUptoRow.holds Try.pinned (OpenSpec.upto randPlacesSpec)

/-- 'regattalaw05.RandOnce', WHERE WHAT IT READS IS OF BULK AT MOST 1048576: true; the input reads as it did. -/
def randOnceUptoRow : OpenClaim := { program := "ytcojiienmmmihaa", sum := "dbe2601ff5fe6141ae1ecc25b0756f81f45a240fb9d9a4b0cd7076b70366ae4b", func := "regatta/regattalaw05.RandOnce", spec := "randOnce", unfollowed := true, recurses := true, apart := false, narrowed := true }
def RandOnceUptoSaid : Prop := randOnceUptoRow.holds Try.pinned (OpenSpec.upto randOnceSpec)

/-- 'regattalaw06.DataOwns', WHERE WHAT IT READS IS OF BULK AT MOST 1048576: true; the input reads as it did. -/
def dataOwnsUptoRow : OpenClaim := { program := "ytcojiienmmmihaa", sum := "dbe2601ff5fe6141ae1ecc25b0756f81f45a240fb9d9a4b0cd7076b70366ae4b", func := "regatta/regattalaw06.DataOwns", spec := "dataOwns", unfollowed := true, recurses := true, apart := false, narrowed := true }
def DataOwnsUptoSaid : Prop := dataOwnsUptoRow.holds Try.pinned (OpenSpec.upto dataOwnsSpec)

/-- 'regattalaw06.DataBatches', WHERE WHAT IT READS IS OF BULK AT MOST 1048576: true; the input reads as it did. -/
def dataBatchesUptoRow : OpenClaim := { program := "ytcojiienmmmihaa", sum := "dbe2601ff5fe6141ae1ecc25b0756f81f45a240fb9d9a4b0cd7076b70366ae4b", func := "regatta/regattalaw06.DataBatches", spec := "dataBatches", unfollowed := true, recurses := true, apart := false, narrowed := true }
def DataBatchesUptoSaid : Prop := dataBatchesUptoRow.holds Try.pinned (OpenSpec.upto dataBatchesSpec)

/-- 'regattalaw06.DataPasses', WHERE WHAT IT READS IS OF BULK AT MOST 1048576: true; the input reads as it did. -/
def dataPassesUptoRow : OpenClaim := { program := "ytcojiienmmmihaa", sum := "dbe2601ff5fe6141ae1ecc25b0756f81f45a240fb9d9a4b0cd7076b70366ae4b", func := "regatta/regattalaw06.DataPasses", spec := "dataPasses", unfollowed := true, recurses := true, apart := false, narrowed := true }
def DataPassesUptoSaid : Prop := dataPassesUptoRow.holds Try.pinned (OpenSpec.upto dataPassesSpec)

/-- 'regattalaw06.DataOwners', WHERE WHAT IT READS IS OF BULK AT MOST 1048576: true; the input reads as it did. -/
def dataOwnersUptoRow : OpenClaim := { program := "ytcojiienmmmihaa", sum := "dbe2601ff5fe6141ae1ecc25b0756f81f45a240fb9d9a4b0cd7076b70366ae4b", func := "regatta/regattalaw06.DataOwners", spec := "dataOwners", unfollowed := true, recurses := true, apart := false, narrowed := true }
def DataOwnersUptoSaid : Prop := dataOwnersUptoRow.holds Try.pinned (OpenSpec.upto dataOwnersSpec)

/-- 'regattalaw06.DataShards', WHERE WHAT IT READS IS OF BULK AT MOST 1048576: true; the input reads as it did. -/
def dataShardsUptoRow : OpenClaim := { program := "ytcojiienmmmihaa", sum := "dbe2601ff5fe6141ae1ecc25b0756f81f45a240fb9d9a4b0cd7076b70366ae4b", func := "regatta/regattalaw06.DataShards", spec := "dataShards", unfollowed := true, recurses := true, apart := false, narrowed := true }
def DataShardsUptoSaid : Prop := dataShardsUptoRow.holds Try.pinned (OpenSpec.upto dataShardsSpec)

end Rows
end Go.Proofs.Ytcojiienmmmihaa
