/-
  No cell of these rows narrows 'for every input' (looked for: loops, veiled, ifaces, maps, wideKeys, modest, calm, conditions, laid).
  DERIVED. THE GIVEN ROWS OF THIS SEAT. 12 by the template 'for every input the law returns true; each argument reads behind the call as it read before'; 0 by the template 'total and deterministic' (their statements: YthmdmbgjheploaaTotals.lean).
  GIVEN WITH THE SEED: the statements are not yours to turn. If you find one false, say at which input.
  Laid BY PROGRAM, IN A SANDBOX (cutbox-rows.mjs): the forced cells as the released guide's own fill.sh prints them over the translation bbcdc0d6480829da… (all of the seat's roots in one cut). By AI agents, Wed Nov 11 2026. No macro, syntax, notation, axiom, sorry.
-/
import Derived.Test.YthmdmbgjheploaaChecked
import GoSem.Claim
import GoSem.ClaimJoined
import GoSem.ClaimMapViews
import Derived.JoinedTies
import Derived.KernelRfl
namespace Go.Proofs.Ythmdmbgjheploaa
/- THE CELL 'sum', in the pinned program and in every row, IS THE sha256 OF THE DUMP (.gsa) THAT YthmdmbgjheploaaProg.lean LOADS. Nothing in Lean hashes anything: it is a label: what it is worth is what the hold of that sum in a sandbox is worth. -/
noncomputable def Try.pinned : Pinned := { name := "ythmdmbgjheploaa", sum := "bbcdc0d6480829da0b58f0aa6297e87014acfb808bbe3beb28235742d0943123", checked := Try.checked }
namespace Rows
def none {H : Type} : Left H := { results := [], args := [] }

/-- 'rehearsallaw01.NumTexts': WHATEVER THE INPUT: true; the input reads as it did. -/
def numTextsSpec : ChangeSpec := { name := "numTexts", fn := fun _ => fun
  | [d1, d2, d3] => { results := [.lit (.bool true)], args := [d1, d2, d3] }
  | _ => none }
def numTextsRow : OpenClaim := { program := "ythmdmbgjheploaa", sum := "bbcdc0d6480829da0b58f0aa6297e87014acfb808bbe3beb28235742d0943123", func := "rehearsal/rehearsallaw01.NumTexts", spec := "numTexts", inPlace := ["internal/bytealg.IndexByteString"], recurses := true, apart := false }
def NumTextsSaid : Prop := numTextsRow.holds Try.pinned (OpenSpec.ofChange numTextsSpec)

/-- ITS FALSE NEIGHBOUR: 'it returns false'. Refute it at one input. -/
def numTextsWrong : ChangeSpec := { name := "numTexts", fn := fun _ => fun
  | [d1, d2, d3] => { results := [.lit (.bool false)], args := [d1, d2, d3] }
  | _ => none }
def NumTextsWrongFalsely : Prop := numTextsRow.holds Try.pinned (OpenSpec.ofChange numTextsWrong)

/-- 'rehearsallaw01.NumConstants': WHATEVER THE INPUT: true; the input reads as it did. -/
def numConstantsSpec : ChangeSpec := { name := "numConstants", fn := fun _ => fun
  | [d] => { results := [.lit (.bool true)], args := [d] }
  | _ => none }
def numConstantsRow : OpenClaim := { program := "ythmdmbgjheploaa", sum := "bbcdc0d6480829da0b58f0aa6297e87014acfb808bbe3beb28235742d0943123", func := "rehearsal/rehearsallaw01.NumConstants", spec := "numConstants", inPlace := ["internal/bytealg.IndexByteString"], apart := false }
def NumConstantsSaid : Prop := numConstantsRow.holds Try.pinned (OpenSpec.ofChange numConstantsSpec)

/-- ITS FALSE NEIGHBOUR: 'it returns false'. Refute it at one input. -/
def numConstantsWrong : ChangeSpec := { name := "numConstants", fn := fun _ => fun
  | [d] => { results := [.lit (.bool false)], args := [d] }
  | _ => none }
def NumConstantsWrongFalsely : Prop := numConstantsRow.holds Try.pinned (OpenSpec.ofChange numConstantsWrong)

/-- 'rehearsallaw01.NumModes': WHATEVER THE INPUT: true; the input reads as it did. -/
def numModesSpec : ChangeSpec := { name := "numModes", fn := fun _ => fun
  | [d] => { results := [.lit (.bool true)], args := [d] }
  | _ => none }
def numModesRow : OpenClaim := { program := "ythmdmbgjheploaa", sum := "bbcdc0d6480829da0b58f0aa6297e87014acfb808bbe3beb28235742d0943123", func := "rehearsal/rehearsallaw01.NumModes", spec := "numModes", inPlace := ["internal/bytealg.IndexByteString"], apart := false }
def NumModesSaid : Prop := numModesRow.holds Try.pinned (OpenSpec.ofChange numModesSpec)

/-- ITS FALSE NEIGHBOUR: 'it returns false'. Refute it at one input. -/
def numModesWrong : ChangeSpec := { name := "numModes", fn := fun _ => fun
  | [d] => { results := [.lit (.bool false)], args := [d] }
  | _ => none }
def NumModesWrongFalsely : Prop := numModesRow.holds Try.pinned (OpenSpec.ofChange numModesWrong)

/-- 'rehearsallaw01.NumApart': WHATEVER THE INPUT: true; the input reads as it did. -/
def numApartSpec : ChangeSpec := { name := "numApart", fn := fun _ => fun
  | [d1, d2, d3] => { results := [.lit (.bool true)], args := [d1, d2, d3] }
  | _ => none }
def numApartRow : OpenClaim := { program := "ythmdmbgjheploaa", sum := "bbcdc0d6480829da0b58f0aa6297e87014acfb808bbe3beb28235742d0943123", func := "rehearsal/rehearsallaw01.NumApart", spec := "numApart", inPlace := ["internal/bytealg.IndexByteString"], apart := false }
def NumApartSaid : Prop := numApartRow.holds Try.pinned (OpenSpec.ofChange numApartSpec)

/-- ITS FALSE NEIGHBOUR: 'it returns false'. Refute it at one input. -/
def numApartWrong : ChangeSpec := { name := "numApart", fn := fun _ => fun
  | [d1, d2, d3] => { results := [.lit (.bool false)], args := [d1, d2, d3] }
  | _ => none }
def NumApartWrongFalsely : Prop := numApartRow.holds Try.pinned (OpenSpec.ofChange numApartWrong)

/-- 'rehearsallaw20.BlockLast': WHATEVER THE INPUT: true; the input reads as it did. -/
def blockLastSpec : ChangeSpec := { name := "blockLast", fn := fun _ => fun
  | [d] => { results := [.lit (.bool true)], args := [d] }
  | _ => none }
def blockLastRow : OpenClaim := { program := "ythmdmbgjheploaa", sum := "bbcdc0d6480829da0b58f0aa6297e87014acfb808bbe3beb28235742d0943123", func := "rehearsal/rehearsallaw20.BlockLast", spec := "blockLast", unfollowed := true, recurses := true, apart := false }
def BlockLastSaid : Prop := blockLastRow.holds Try.pinned (OpenSpec.ofChange blockLastSpec)

/-- ITS FALSE NEIGHBOUR: 'it returns false'. Refute it at one input. -/
def blockLastWrong : ChangeSpec := { name := "blockLast", fn := fun _ => fun
  | [d] => { results := [.lit (.bool false)], args := [d] }
  | _ => none }
def BlockLastWrongFalsely : Prop := blockLastRow.holds Try.pinned (OpenSpec.ofChange blockLastWrong)

/-- 'rehearsallaw20.BlockSafe': WHATEVER THE INPUT: true; the input reads as it did. -/
def blockSafeSpec : ChangeSpec := { name := "blockSafe", fn := fun _ => fun
  | [d1, d2, d3] => { results := [.lit (.bool true)], args := [d1, d2, d3] }
  | _ => none }
def blockSafeRow : OpenClaim := { program := "ythmdmbgjheploaa", sum := "bbcdc0d6480829da0b58f0aa6297e87014acfb808bbe3beb28235742d0943123", func := "rehearsal/rehearsallaw20.BlockSafe", spec := "blockSafe", unfollowed := true, recurses := true, apart := false }
def BlockSafeSaid : Prop := blockSafeRow.holds Try.pinned (OpenSpec.ofChange blockSafeSpec)

/-- ITS FALSE NEIGHBOUR: 'it returns false'. Refute it at one input. -/
def blockSafeWrong : ChangeSpec := { name := "blockSafe", fn := fun _ => fun
  | [d1, d2, d3] => { results := [.lit (.bool false)], args := [d1, d2, d3] }
  | _ => none }
def BlockSafeWrongFalsely : Prop := blockSafeRow.holds Try.pinned (OpenSpec.ofChange blockSafeWrong)

/-- 'rehearsallaw20.BlockTwice': WHATEVER THE INPUT: true; the input reads as it did. -/
def blockTwiceSpec : ChangeSpec := { name := "blockTwice", fn := fun _ => fun
  | [d1, d2, d3] => { results := [.lit (.bool true)], args := [d1, d2, d3] }
  | _ => none }
def blockTwiceRow : OpenClaim := { program := "ythmdmbgjheploaa", sum := "bbcdc0d6480829da0b58f0aa6297e87014acfb808bbe3beb28235742d0943123", func := "rehearsal/rehearsallaw20.BlockTwice", spec := "blockTwice", unfollowed := true, recurses := true, apart := false }
def BlockTwiceSaid : Prop := blockTwiceRow.holds Try.pinned (OpenSpec.ofChange blockTwiceSpec)

/-- ITS FALSE NEIGHBOUR: 'it returns false'. Refute it at one input. -/
def blockTwiceWrong : ChangeSpec := { name := "blockTwice", fn := fun _ => fun
  | [d1, d2, d3] => { results := [.lit (.bool false)], args := [d1, d2, d3] }
  | _ => none }
def BlockTwiceWrongFalsely : Prop := blockTwiceRow.holds Try.pinned (OpenSpec.ofChange blockTwiceWrong)

/-- 'rehearsallaw20.BlockFuses': WHATEVER THE INPUT: true; the input reads as it did. -/
def blockFusesSpec : ChangeSpec := { name := "blockFuses", fn := fun _ => fun
  | [d1, d2] => { results := [.lit (.bool true)], args := [d1, d2] }
  | _ => none }
def blockFusesRow : OpenClaim := { program := "ythmdmbgjheploaa", sum := "bbcdc0d6480829da0b58f0aa6297e87014acfb808bbe3beb28235742d0943123", func := "rehearsal/rehearsallaw20.BlockFuses", spec := "blockFuses", unfollowed := true, recurses := true, apart := false }
def BlockFusesSaid : Prop := blockFusesRow.holds Try.pinned (OpenSpec.ofChange blockFusesSpec)

/-- ITS FALSE NEIGHBOUR: 'it returns false'. Refute it at one input. -/
def blockFusesWrong : ChangeSpec := { name := "blockFuses", fn := fun _ => fun
  | [d1, d2] => { results := [.lit (.bool false)], args := [d1, d2] }
  | _ => none }
def BlockFusesWrongFalsely : Prop := blockFusesRow.holds Try.pinned (OpenSpec.ofChange blockFusesWrong)

/-- 'rehearsallaw20.BlockNobody': WHATEVER THE INPUT: true; the input reads as it did. -/
def blockNobodySpec : ChangeSpec := { name := "blockNobody", fn := fun _ => fun
  | [d] => { results := [.lit (.bool true)], args := [d] }
  | _ => none }
def blockNobodyRow : OpenClaim := { program := "ythmdmbgjheploaa", sum := "bbcdc0d6480829da0b58f0aa6297e87014acfb808bbe3beb28235742d0943123", func := "rehearsal/rehearsallaw20.BlockNobody", spec := "blockNobody", unfollowed := true, recurses := true, apart := false }
def BlockNobodySaid : Prop := blockNobodyRow.holds Try.pinned (OpenSpec.ofChange blockNobodySpec)

/-- ITS FALSE NEIGHBOUR: 'it returns false'. Refute it at one input. -/
def blockNobodyWrong : ChangeSpec := { name := "blockNobody", fn := fun _ => fun
  | [d] => { results := [.lit (.bool false)], args := [d] }
  | _ => none }
def BlockNobodyWrongFalsely : Prop := blockNobodyRow.holds Try.pinned (OpenSpec.ofChange blockNobodyWrong)

/-- 'rehearsallaw20.BlockPlays': WHATEVER THE INPUT: true; the input reads as it did. -/
def blockPlaysSpec : ChangeSpec := { name := "blockPlays", fn := fun _ => fun
  | [d1, d2] => { results := [.lit (.bool true)], args := [d1, d2] }
  | _ => none }
def blockPlaysRow : OpenClaim := { program := "ythmdmbgjheploaa", sum := "bbcdc0d6480829da0b58f0aa6297e87014acfb808bbe3beb28235742d0943123", func := "rehearsal/rehearsallaw20.BlockPlays", spec := "blockPlays", unfollowed := true, recurses := true, apart := false }
def BlockPlaysSaid : Prop := blockPlaysRow.holds Try.pinned (OpenSpec.ofChange blockPlaysSpec)

/-- ITS FALSE NEIGHBOUR: 'it returns false'. Refute it at one input. -/
def blockPlaysWrong : ChangeSpec := { name := "blockPlays", fn := fun _ => fun
  | [d1, d2] => { results := [.lit (.bool false)], args := [d1, d2] }
  | _ => none }
def BlockPlaysWrongFalsely : Prop := blockPlaysRow.holds Try.pinned (OpenSpec.ofChange blockPlaysWrong)

/-- 'rehearsallaw01.NumDecimals': WHATEVER THE INPUT: true; the input reads as it did. -/
def numDecimalsSpec : ChangeSpec := { name := "numDecimals", fn := fun _ => fun
  | [d] => { results := [.lit (.bool true)], args := [d] }
  | _ => none }
def numDecimalsRow : OpenClaim := { program := "ythmdmbgjheploaa", sum := "bbcdc0d6480829da0b58f0aa6297e87014acfb808bbe3beb28235742d0943123", func := "rehearsal/rehearsallaw01.NumDecimals", spec := "numDecimals", inPlace := ["internal/bytealg.IndexByteString"], apart := false }
def NumDecimalsSaid : Prop := numDecimalsRow.holds Try.pinned (OpenSpec.ofChange numDecimalsSpec)

/-- ITS FALSE NEIGHBOUR: 'it returns false'. Refute it at one input. -/
def numDecimalsWrong : ChangeSpec := { name := "numDecimals", fn := fun _ => fun
  | [d] => { results := [.lit (.bool false)], args := [d] }
  | _ => none }
def NumDecimalsWrongFalsely : Prop := numDecimalsRow.holds Try.pinned (OpenSpec.ofChange numDecimalsWrong)

/-- 'rehearsallaw01.NumBack': WHATEVER THE INPUT: true; the input reads as it did. -/
def numBackSpec : ChangeSpec := { name := "numBack", fn := fun _ => fun
  | [d] => { results := [.lit (.bool true)], args := [d] }
  | _ => none }
def numBackRow : OpenClaim := { program := "ythmdmbgjheploaa", sum := "bbcdc0d6480829da0b58f0aa6297e87014acfb808bbe3beb28235742d0943123", func := "rehearsal/rehearsallaw01.NumBack", spec := "numBack", inPlace := ["internal/bytealg.IndexByteString"], apart := false }
def NumBackSaid : Prop := numBackRow.holds Try.pinned (OpenSpec.ofChange numBackSpec)

/-- ITS FALSE NEIGHBOUR: 'it returns false'. Refute it at one input. -/
def numBackWrong : ChangeSpec := { name := "numBack", fn := fun _ => fun
  | [d] => { results := [.lit (.bool false)], args := [d] }
  | _ => none }
def NumBackWrongFalsely : Prop := numBackRow.holds Try.pinned (OpenSpec.ofChange numBackWrong)

/- THE SECOND FORM. 'bulk': how many values and letters a reading holds, each counted each time it is reached (what is shared counts as often as it is met; a slice's spare places count too). A statement '..UptoSaid' is the law's where the arguments, and the package variables that the reading takes, are together of bulk at most 1048576: NARROWER than '..Said'. Prove '..Said' where nothing that the law and all that it calls make is longer than what came in: it says more and counts as full. Else prove '..UptoSaid'. A law counts once. -/
mutual
def uptoBulk {H : Type} : DataW H → Nat
  | .lit (.string bytes) => bytes.length + 1
  | .lit _ => 1
  | .nil => 1
  | .ptr d => uptoBulk d + 1
  | .slice elems spare => uptoBulkAll elems + uptoBulkAll spare + 1
  | .agg parts => uptoBulkAll parts + 1
  | .iface _ d => uptoBulk d + 1
  | .map entries => uptoBulkEntries entries + 1
  | .held _ => 1
def uptoBulkAll {H : Type} : List (DataW H) → Nat
  | [] => 0
  | d :: r => uptoBulk d + uptoBulkAll r
def uptoBulkEntries {H : Type} : List (Lit × DataW H) → Nat
  | [] => 0
  | x :: r => uptoBulkEntry x + uptoBulkEntries r
def uptoBulkEntry {H : Type} : Lit × DataW H → Nat
  | (.string bytes, d) => bytes.length + uptoBulk d + 1
  | (_, d) => uptoBulk d + 1
 end
def uptoSmall : (H : Type) → List (DataW H) → Bool := fun _ ds => decide (uptoBulkAll ds ≤ 1048576)
def OpenSpec.upto (s : _root_.Go.ChangeSpec) : _root_.Go.OpenSpec := { _root_.Go.OpenSpec.ofChange s with cond := some uptoSmall }

/-- 'rehearsallaw01.NumTexts', WHERE WHAT IT READS IS OF BULK AT MOST 1048576: true; the input reads as it did. -/
def numTextsUptoRow : OpenClaim := { program := "ythmdmbgjheploaa", sum := "bbcdc0d6480829da0b58f0aa6297e87014acfb808bbe3beb28235742d0943123", func := "rehearsal/rehearsallaw01.NumTexts", spec := "numTexts", inPlace := ["internal/bytealg.IndexByteString"], recurses := true, apart := false, narrowed := true }
def NumTextsUptoSaid : Prop := numTextsUptoRow.holds Try.pinned (OpenSpec.upto numTextsSpec)

/-- 'rehearsallaw01.NumConstants', WHERE WHAT IT READS IS OF BULK AT MOST 1048576: true; the input reads as it did. -/
def numConstantsUptoRow : OpenClaim := { program := "ythmdmbgjheploaa", sum := "bbcdc0d6480829da0b58f0aa6297e87014acfb808bbe3beb28235742d0943123", func := "rehearsal/rehearsallaw01.NumConstants", spec := "numConstants", inPlace := ["internal/bytealg.IndexByteString"], apart := false, narrowed := true }
def NumConstantsUptoSaid : Prop := numConstantsUptoRow.holds Try.pinned (OpenSpec.upto numConstantsSpec)

/-- 'rehearsallaw01.NumModes', WHERE WHAT IT READS IS OF BULK AT MOST 1048576: true; the input reads as it did. -/
def numModesUptoRow : OpenClaim := { program := "ythmdmbgjheploaa", sum := "bbcdc0d6480829da0b58f0aa6297e87014acfb808bbe3beb28235742d0943123", func := "rehearsal/rehearsallaw01.NumModes", spec := "numModes", inPlace := ["internal/bytealg.IndexByteString"], apart := false, narrowed := true }
def NumModesUptoSaid : Prop := numModesUptoRow.holds Try.pinned (OpenSpec.upto numModesSpec)

/-- 'rehearsallaw01.NumApart', WHERE WHAT IT READS IS OF BULK AT MOST 1048576: true; the input reads as it did. -/
def numApartUptoRow : OpenClaim := { program := "ythmdmbgjheploaa", sum := "bbcdc0d6480829da0b58f0aa6297e87014acfb808bbe3beb28235742d0943123", func := "rehearsal/rehearsallaw01.NumApart", spec := "numApart", inPlace := ["internal/bytealg.IndexByteString"], apart := false, narrowed := true }
def NumApartUptoSaid : Prop := numApartUptoRow.holds Try.pinned (OpenSpec.upto numApartSpec)

/-- 'rehearsallaw20.BlockLast', WHERE WHAT IT READS IS OF BULK AT MOST 1048576: true; the input reads as it did. -/
def blockLastUptoRow : OpenClaim := { program := "ythmdmbgjheploaa", sum := "bbcdc0d6480829da0b58f0aa6297e87014acfb808bbe3beb28235742d0943123", func := "rehearsal/rehearsallaw20.BlockLast", spec := "blockLast", unfollowed := true, recurses := true, apart := false, narrowed := true }
def BlockLastUptoSaid : Prop := blockLastUptoRow.holds Try.pinned (OpenSpec.upto blockLastSpec)

/-- 'rehearsallaw20.BlockSafe', WHERE WHAT IT READS IS OF BULK AT MOST 1048576: true; the input reads as it did. -/
def blockSafeUptoRow : OpenClaim := { program := "ythmdmbgjheploaa", sum := "bbcdc0d6480829da0b58f0aa6297e87014acfb808bbe3beb28235742d0943123", func := "rehearsal/rehearsallaw20.BlockSafe", spec := "blockSafe", unfollowed := true, recurses := true, apart := false, narrowed := true }
def BlockSafeUptoSaid : Prop := blockSafeUptoRow.holds Try.pinned (OpenSpec.upto blockSafeSpec)

/-- 'rehearsallaw20.BlockTwice', WHERE WHAT IT READS IS OF BULK AT MOST 1048576: true; the input reads as it did. -/
def blockTwiceUptoRow : OpenClaim := { program := "ythmdmbgjheploaa", sum := "bbcdc0d6480829da0b58f0aa6297e87014acfb808bbe3beb28235742d0943123", func := "rehearsal/rehearsallaw20.BlockTwice", spec := "blockTwice", unfollowed := true, recurses := true, apart := false, narrowed := true }
def BlockTwiceUptoSaid : Prop := blockTwiceUptoRow.holds Try.pinned (OpenSpec.upto blockTwiceSpec)

/-- 'rehearsallaw20.BlockFuses', WHERE WHAT IT READS IS OF BULK AT MOST 1048576: true; the input reads as it did. -/
def blockFusesUptoRow : OpenClaim := { program := "ythmdmbgjheploaa", sum := "bbcdc0d6480829da0b58f0aa6297e87014acfb808bbe3beb28235742d0943123", func := "rehearsal/rehearsallaw20.BlockFuses", spec := "blockFuses", unfollowed := true, recurses := true, apart := false, narrowed := true }
def BlockFusesUptoSaid : Prop := blockFusesUptoRow.holds Try.pinned (OpenSpec.upto blockFusesSpec)

/-- 'rehearsallaw20.BlockNobody', WHERE WHAT IT READS IS OF BULK AT MOST 1048576: true; the input reads as it did. -/
def blockNobodyUptoRow : OpenClaim := { program := "ythmdmbgjheploaa", sum := "bbcdc0d6480829da0b58f0aa6297e87014acfb808bbe3beb28235742d0943123", func := "rehearsal/rehearsallaw20.BlockNobody", spec := "blockNobody", unfollowed := true, recurses := true, apart := false, narrowed := true }
def BlockNobodyUptoSaid : Prop := blockNobodyUptoRow.holds Try.pinned (OpenSpec.upto blockNobodySpec)

/-- 'rehearsallaw20.BlockPlays', WHERE WHAT IT READS IS OF BULK AT MOST 1048576: true; the input reads as it did. -/
def blockPlaysUptoRow : OpenClaim := { program := "ythmdmbgjheploaa", sum := "bbcdc0d6480829da0b58f0aa6297e87014acfb808bbe3beb28235742d0943123", func := "rehearsal/rehearsallaw20.BlockPlays", spec := "blockPlays", unfollowed := true, recurses := true, apart := false, narrowed := true }
def BlockPlaysUptoSaid : Prop := blockPlaysUptoRow.holds Try.pinned (OpenSpec.upto blockPlaysSpec)

/-- 'rehearsallaw01.NumDecimals', WHERE WHAT IT READS IS OF BULK AT MOST 1048576: true; the input reads as it did. -/
def numDecimalsUptoRow : OpenClaim := { program := "ythmdmbgjheploaa", sum := "bbcdc0d6480829da0b58f0aa6297e87014acfb808bbe3beb28235742d0943123", func := "rehearsal/rehearsallaw01.NumDecimals", spec := "numDecimals", inPlace := ["internal/bytealg.IndexByteString"], apart := false, narrowed := true }
def NumDecimalsUptoSaid : Prop := numDecimalsUptoRow.holds Try.pinned (OpenSpec.upto numDecimalsSpec)

/-- 'rehearsallaw01.NumBack', WHERE WHAT IT READS IS OF BULK AT MOST 1048576: true; the input reads as it did. -/
def numBackUptoRow : OpenClaim := { program := "ythmdmbgjheploaa", sum := "bbcdc0d6480829da0b58f0aa6297e87014acfb808bbe3beb28235742d0943123", func := "rehearsal/rehearsallaw01.NumBack", spec := "numBack", inPlace := ["internal/bytealg.IndexByteString"], apart := false, narrowed := true }
def NumBackUptoSaid : Prop := numBackUptoRow.holds Try.pinned (OpenSpec.upto numBackSpec)

end Rows
end Go.Proofs.Ythmdmbgjheploaa
