/-
  No cell of these rows narrows 'for every input' (looked for: loops, veiled, ifaces, maps, wideKeys, modest, calm, conditions, laid).
  DERIVED. THE GIVEN ROWS OF THIS SEAT. 3 by the template 'for every input the law returns true; each argument reads behind the call as it read before'; 0 by the template 'total and deterministic' (their statements: YtgcbipflmhbpcaaTotals.lean).
  GIVEN WITH THE SEED: the statements are not yours to turn. If you find one false, say at which input.
  Laid BY PROGRAM, IN A SANDBOX (cutbox-rows.mjs): the forced cells as the released guide's own fill.sh prints them over the translation 3cce2cec02a81e0c… (all of the seat's roots in one cut). By AI agents, Wed Nov 11 2026. No macro, syntax, notation, axiom, sorry.
-/
import Derived.Test.YtgcbipflmhbpcaaChecked
import GoSem.Claim
import GoSem.ClaimJoined
import GoSem.ClaimMapViews
import Derived.JoinedTies
import Derived.KernelRfl
namespace Go.Proofs.Ytgcbipflmhbpcaa
/- THE CELL 'sum', in the pinned program and in every row, IS THE sha256 OF THE DUMP (.gsa) THAT YtgcbipflmhbpcaaProg.lean LOADS. Nothing in Lean hashes anything: it is a label: what it is worth is what the hold of that sum in a sandbox is worth. -/
noncomputable def Try.pinned : Pinned := { name := "ytgcbipflmhbpcaa", sum := "3cce2cec02a81e0c144d211e160672da0b8cbf520f9a08697bb4847e73e2893e", checked := Try.checked }
namespace Rows
def none {H : Type} : Left H := { results := [], args := [] }

/-- 'rehearsallaw11.VarsPlays': WHATEVER THE INPUT: true; the input reads as it did. -/
def varsPlaysSpec : ChangeSpec := { name := "varsPlays", fn := fun _ => fun
  | [d1, d2, d3, d4] => { results := [.lit (.bool true)], args := [d1, d2, d3, d4] }
  | _ => none }
def varsPlaysRow : OpenClaim := { program := "ytgcbipflmhbpcaa", sum := "3cce2cec02a81e0c144d211e160672da0b8cbf520f9a08697bb4847e73e2893e", func := "rehearsal/rehearsallaw11.VarsPlays", spec := "varsPlays", inPlace := ["internal/bytealg.abigen_runtime_cmpstring", "slices.overlaps[rehearsal/api.Var]", "internal/abi.NoEscape", "internal/bytealg.MakeNoZero", "internal/bytealg.IndexByteString"], unfollowed := true, recurses := true, apart := false }
def VarsPlaysSaid : Prop := varsPlaysRow.holds Try.pinned (OpenSpec.ofChange varsPlaysSpec)

/-- ITS FALSE NEIGHBOUR: 'it returns false'. Refute it at one input. -/
def varsPlaysWrong : ChangeSpec := { name := "varsPlays", fn := fun _ => fun
  | [d1, d2, d3, d4] => { results := [.lit (.bool false)], args := [d1, d2, d3, d4] }
  | _ => none }
def VarsPlaysWrongFalsely : Prop := varsPlaysRow.holds Try.pinned (OpenSpec.ofChange varsPlaysWrong)

/-- 'rehearsallaw11.VarsSets': WHATEVER THE INPUT: true; the input reads as it did. -/
def varsSetsSpec : ChangeSpec := { name := "varsSets", fn := fun _ => fun
  | [d1, d2, d3, d4] => { results := [.lit (.bool true)], args := [d1, d2, d3, d4] }
  | _ => none }
def varsSetsRow : OpenClaim := { program := "ytgcbipflmhbpcaa", sum := "3cce2cec02a81e0c144d211e160672da0b8cbf520f9a08697bb4847e73e2893e", func := "rehearsal/rehearsallaw11.VarsSets", spec := "varsSets", inPlace := ["internal/bytealg.abigen_runtime_cmpstring", "slices.overlaps[rehearsal/api.Var]", "internal/abi.NoEscape", "internal/bytealg.MakeNoZero", "internal/bytealg.IndexByteString"], unfollowed := true, recurses := true, apart := false }
def VarsSetsSaid : Prop := varsSetsRow.holds Try.pinned (OpenSpec.ofChange varsSetsSpec)

/-- ITS FALSE NEIGHBOUR: 'it returns false'. Refute it at one input. -/
def varsSetsWrong : ChangeSpec := { name := "varsSets", fn := fun _ => fun
  | [d1, d2, d3, d4] => { results := [.lit (.bool false)], args := [d1, d2, d3, d4] }
  | _ => none }
def VarsSetsWrongFalsely : Prop := varsSetsRow.holds Try.pinned (OpenSpec.ofChange varsSetsWrong)

/-- 'rehearsallaw11.VarsNobody': WHATEVER THE INPUT: true; the input reads as it did. -/
def varsNobodySpec : ChangeSpec := { name := "varsNobody", fn := fun _ => fun
  | [d] => { results := [.lit (.bool true)], args := [d] }
  | _ => none }
def varsNobodyRow : OpenClaim := { program := "ytgcbipflmhbpcaa", sum := "3cce2cec02a81e0c144d211e160672da0b8cbf520f9a08697bb4847e73e2893e", func := "rehearsal/rehearsallaw11.VarsNobody", spec := "varsNobody", inPlace := ["internal/abi.NoEscape", "internal/bytealg.MakeNoZero", "internal/bytealg.IndexByteString", "internal/bytealg.abigen_runtime_cmpstring", "slices.overlaps[rehearsal/api.Var]"], unfollowed := true, recurses := true, apart := false }
def VarsNobodySaid : Prop := varsNobodyRow.holds Try.pinned (OpenSpec.ofChange varsNobodySpec)

/-- ITS FALSE NEIGHBOUR: 'it returns false'. Refute it at one input. -/
def varsNobodyWrong : ChangeSpec := { name := "varsNobody", fn := fun _ => fun
  | [d] => { results := [.lit (.bool false)], args := [d] }
  | _ => none }
def VarsNobodyWrongFalsely : Prop := varsNobodyRow.holds Try.pinned (OpenSpec.ofChange varsNobodyWrong)

/- THE SECOND FORM. 'bulk': how many values and letters a reading holds, each counted each time it is reached (what is shared counts as often as it is met; a slice's spare places count too). A statement '..UptoSaid' is the law's where the arguments, and the package variables that the reading takes, are together of bulk at most 1048576: NARROWER than '..Said'. Prove '..Said' where nothing that the law and all that it calls make is longer than what came in: it says more and counts as full. Else prove '..UptoSaid'. A law counts once. -/
mutual
def uptoBulk {H : Type} : DataW H → Nat
  | .lit (.string bytes) => bytes.length + 1
  | .lit _ => 1
  | .nil => 1
  | .ptr d => uptoBulk d + 1
  | .slice elems spare => uptoBulkAll elems + uptoBulkAll spare + 1
  | .agg parts => uptoBulkAll parts + 1
  | .iface _ d => uptoBulk d + 1
  | .map entries => uptoBulkEntries entries + 1
  | .held _ => 1
def uptoBulkAll {H : Type} : List (DataW H) → Nat
  | [] => 0
  | d :: r => uptoBulk d + uptoBulkAll r
def uptoBulkEntries {H : Type} : List (Lit × DataW H) → Nat
  | [] => 0
  | x :: r => uptoBulkEntry x + uptoBulkEntries r
def uptoBulkEntry {H : Type} : Lit × DataW H → Nat
  | (.string bytes, d) => bytes.length + uptoBulk d + 1
  | (_, d) => uptoBulk d + 1
 end
def uptoSmall : (H : Type) → List (DataW H) → Bool := fun _ ds => decide (uptoBulkAll ds ≤ 1048576)
def OpenSpec.upto (s : _root_.Go.ChangeSpec) : _root_.Go.OpenSpec := { _root_.Go.OpenSpec.ofChange s with cond := some uptoSmall }

/-- 'rehearsallaw11.VarsPlays', WHERE WHAT IT READS IS OF BULK AT MOST 1048576: true; the input reads as it did. -/
def varsPlaysUptoRow : OpenClaim := { program := "ytgcbipflmhbpcaa", sum := "3cce2cec02a81e0c144d211e160672da0b8cbf520f9a08697bb4847e73e2893e", func := "rehearsal/rehearsallaw11.VarsPlays", spec := "varsPlays", inPlace := ["internal/bytealg.abigen_runtime_cmpstring", "slices.overlaps[rehearsal/api.Var]", "internal/abi.NoEscape", "internal/bytealg.MakeNoZero", "internal/bytealg.IndexByteString"], unfollowed := true, recurses := true, apart := false, narrowed := true }
def VarsPlaysUptoSaid : Prop := varsPlaysUptoRow.holds Try.pinned (OpenSpec.upto varsPlaysSpec)

/-- 'rehearsallaw11.VarsSets', WHERE WHAT IT READS IS OF BULK AT MOST 1048576: true; the input reads as it did. -/
def varsSetsUptoRow : OpenClaim := { program := "ytgcbipflmhbpcaa", sum := "3cce2cec02a81e0c144d211e160672da0b8cbf520f9a08697bb4847e73e2893e", func := "rehearsal/rehearsallaw11.VarsSets", spec := "varsSets", inPlace := ["internal/bytealg.abigen_runtime_cmpstring", "slices.overlaps[rehearsal/api.Var]", "internal/abi.NoEscape", "internal/bytealg.MakeNoZero", "internal/bytealg.IndexByteString"], unfollowed := true, recurses := true, apart := false, narrowed := true }
def VarsSetsUptoSaid : Prop := varsSetsUptoRow.holds Try.pinned (OpenSpec.upto varsSetsSpec)

/-- 'rehearsallaw11.VarsNobody', WHERE WHAT IT READS IS OF BULK AT MOST 1048576: true; the input reads as it did. -/
def varsNobodyUptoRow : OpenClaim := { program := "ytgcbipflmhbpcaa", sum := "3cce2cec02a81e0c144d211e160672da0b8cbf520f9a08697bb4847e73e2893e", func := "rehearsal/rehearsallaw11.VarsNobody", spec := "varsNobody", inPlace := ["internal/abi.NoEscape", "internal/bytealg.MakeNoZero", "internal/bytealg.IndexByteString", "internal/bytealg.abigen_runtime_cmpstring", "slices.overlaps[rehearsal/api.Var]"], unfollowed := true, recurses := true, apart := false, narrowed := true }
def VarsNobodyUptoSaid : Prop := varsNobodyUptoRow.holds Try.pinned (OpenSpec.upto varsNobodySpec)

end Rows
end Go.Proofs.Ytgcbipflmhbpcaa
