/-
  No cell of these rows narrows 'for every input' (looked for: loops, veiled, ifaces, maps, wideKeys, modest, calm, conditions, laid).
  DERIVED. THE GIVEN ROWS OF THIS SEAT. 5 by the template 'for every input the law returns true; each argument reads behind the call as it read before'; 0 by the template 'total and deterministic' (their statements: YticnnmoheijjdaaTotals.lean).
  GIVEN WITH THE SEED: the statements are not yours to turn. If you find one false, say at which input.
  Laid BY PROGRAM, IN A SANDBOX (cutbox-rows.mjs): the forced cells as the released guide's own fill.sh prints them over the translation acb60f5ac600f2be… (all of the seat's roots in one cut). By AI agents, Wed Nov 11 2026. No macro, syntax, notation, axiom, sorry.
-/
import Derived.Test.YticnnmoheijjdaaChecked
import GoSem.Claim
import GoSem.ClaimJoined
import GoSem.ClaimMapViews
import Derived.JoinedTies
import Derived.KernelRfl
namespace Go.Proofs.Yticnnmoheijjdaa
/- THE CELL 'sum', in the pinned program and in every row, IS THE sha256 OF THE DUMP (.gsa) THAT YticnnmoheijjdaaProg.lean LOADS. Nothing in Lean hashes anything: it is a label: what it is worth is what the hold of that sum in a sandbox is worth. -/
noncomputable def Try.pinned : Pinned := { name := "yticnnmoheijjdaa", sum := "acb60f5ac600f2be790a40b492f5534bd00ad3256c5463d9a9047b9fa8350e92", checked := Try.checked }
namespace Rows
def none {H : Type} : Left H := { results := [], args := [] }

/-- 'copyholdlaw24.LeaseTimes': WHATEVER THE INPUT: true; the input reads as it did. -/
def leaseTimesSpec : ChangeSpec := { name := "leaseTimes", fn := fun _ => fun
  | [d1, d2, d3, d4] => { results := [.lit (.bool true)], args := [d1, d2, d3, d4] }
  | _ => none }
def leaseTimesRow : OpenClaim := { program := "yticnnmoheijjdaa", sum := "acb60f5ac600f2be790a40b492f5534bd00ad3256c5463d9a9047b9fa8350e92", func := "copyhold/copyholdlaw24.LeaseTimes", spec := "leaseTimes", apart := false }
def LeaseTimesSaid : Prop := leaseTimesRow.holds Try.pinned (OpenSpec.ofChange leaseTimesSpec)

/-- ITS FALSE NEIGHBOUR: 'it returns false'. Refute it at one input. -/
def leaseTimesWrong : ChangeSpec := { name := "leaseTimes", fn := fun _ => fun
  | [d1, d2, d3, d4] => { results := [.lit (.bool false)], args := [d1, d2, d3, d4] }
  | _ => none }
def LeaseTimesWrongFalsely : Prop := leaseTimesRow.holds Try.pinned (OpenSpec.ofChange leaseTimesWrong)

/-- 'copyholdlaw24.LeaseKnown': WHATEVER THE INPUT: true; the input reads as it did. -/
def leaseKnownSpec : ChangeSpec := { name := "leaseKnown", fn := fun _ => fun
  | [] => { results := [.lit (.bool true)], args := [] }
  | _ => none }
def leaseKnownRow : OpenClaim := { program := "yticnnmoheijjdaa", sum := "acb60f5ac600f2be790a40b492f5534bd00ad3256c5463d9a9047b9fa8350e92", func := "copyhold/copyholdlaw24.LeaseKnown", spec := "leaseKnown", apart := false }
def LeaseKnownSaid : Prop := leaseKnownRow.holds Try.pinned (OpenSpec.ofChange leaseKnownSpec)

/-- ITS FALSE NEIGHBOUR: 'it returns false'. Refute it at one input. -/
def leaseKnownWrong : ChangeSpec := { name := "leaseKnown", fn := fun _ => fun
  | [] => { results := [.lit (.bool false)], args := [] }
  | _ => none }
def LeaseKnownWrongFalsely : Prop := leaseKnownRow.holds Try.pinned (OpenSpec.ofChange leaseKnownWrong)

/-- 'copyholdlaw24.LeaseTells': WHATEVER THE INPUT: true; the input reads as it did. -/
def leaseTellsSpec : ChangeSpec := { name := "leaseTells", fn := fun _ => fun
  | [d1, d2, d3, d4, d5, d6] => { results := [.lit (.bool true)], args := [d1, d2, d3, d4, d5, d6] }
  | _ => none }
def leaseTellsRow : OpenClaim := { program := "yticnnmoheijjdaa", sum := "acb60f5ac600f2be790a40b492f5534bd00ad3256c5463d9a9047b9fa8350e92", func := "copyhold/copyholdlaw24.LeaseTells", spec := "leaseTells", apart := false }
def LeaseTellsSaid : Prop := leaseTellsRow.holds Try.pinned (OpenSpec.ofChange leaseTellsSpec)

/-- ITS FALSE NEIGHBOUR: 'it returns false'. Refute it at one input. -/
def leaseTellsWrong : ChangeSpec := { name := "leaseTells", fn := fun _ => fun
  | [d1, d2, d3, d4, d5, d6] => { results := [.lit (.bool false)], args := [d1, d2, d3, d4, d5, d6] }
  | _ => none }
def LeaseTellsWrongFalsely : Prop := leaseTellsRow.holds Try.pinned (OpenSpec.ofChange leaseTellsWrong)

/-- 'copyholdlaw24.LeaseOwn': WHATEVER THE INPUT: true; the input reads as it did. -/
def leaseOwnSpec : ChangeSpec := { name := "leaseOwn", fn := fun _ => fun
  | [d] => { results := [.lit (.bool true)], args := [d] }
  | _ => none }
def leaseOwnRow : OpenClaim := { program := "yticnnmoheijjdaa", sum := "acb60f5ac600f2be790a40b492f5534bd00ad3256c5463d9a9047b9fa8350e92", func := "copyhold/copyholdlaw24.LeaseOwn", spec := "leaseOwn", apart := false }
def LeaseOwnSaid : Prop := leaseOwnRow.holds Try.pinned (OpenSpec.ofChange leaseOwnSpec)

/-- ITS FALSE NEIGHBOUR: 'it returns false'. Refute it at one input. -/
def leaseOwnWrong : ChangeSpec := { name := "leaseOwn", fn := fun _ => fun
  | [d] => { results := [.lit (.bool false)], args := [d] }
  | _ => none }
def LeaseOwnWrongFalsely : Prop := leaseOwnRow.holds Try.pinned (OpenSpec.ofChange leaseOwnWrong)

/-- 'copyholdlaw24.LeaseApart': WHATEVER THE INPUT: true; the input reads as it did. -/
def leaseApartSpec : ChangeSpec := { name := "leaseApart", fn := fun _ => fun
  | [d1, d2, d3, d4, d5] => { results := [.lit (.bool true)], args := [d1, d2, d3, d4, d5] }
  | _ => none }
def leaseApartRow : OpenClaim := { program := "yticnnmoheijjdaa", sum := "acb60f5ac600f2be790a40b492f5534bd00ad3256c5463d9a9047b9fa8350e92", func := "copyhold/copyholdlaw24.LeaseApart", spec := "leaseApart", apart := false }
def LeaseApartSaid : Prop := leaseApartRow.holds Try.pinned (OpenSpec.ofChange leaseApartSpec)

/-- ITS FALSE NEIGHBOUR: 'it returns false'. Refute it at one input. -/
def leaseApartWrong : ChangeSpec := { name := "leaseApart", fn := fun _ => fun
  | [d1, d2, d3, d4, d5] => { results := [.lit (.bool false)], args := [d1, d2, d3, d4, d5] }
  | _ => none }
def LeaseApartWrongFalsely : Prop := leaseApartRow.holds Try.pinned (OpenSpec.ofChange leaseApartWrong)

/- THE SECOND FORM. 'bulk': how many values and letters a reading holds, each counted each time it is reached (what is shared counts as often as it is met; a slice's spare places count too). A statement '..UptoSaid' is the law's where the arguments, and the package variables that the reading takes, are together of bulk at most 1048576: NARROWER than '..Said'. Prove '..Said' where nothing that the law and all that it calls make is longer than what came in: it says more and counts as full. Else prove '..UptoSaid'. A law counts once. -/
mutual
def uptoBulk {H : Type} : DataW H → Nat
  | .lit (.string bytes) => bytes.length + 1
  | .lit _ => 1
  | .nil => 1
  | .ptr d => uptoBulk d + 1
  | .slice elems spare => uptoBulkAll elems + uptoBulkAll spare + 1
  | .agg parts => uptoBulkAll parts + 1
  | .iface _ d => uptoBulk d + 1
  | .map entries => uptoBulkEntries entries + 1
  | .held _ => 1
def uptoBulkAll {H : Type} : List (DataW H) → Nat
  | [] => 0
  | d :: r => uptoBulk d + uptoBulkAll r
def uptoBulkEntries {H : Type} : List (Lit × DataW H) → Nat
  | [] => 0
  | x :: r => uptoBulkEntry x + uptoBulkEntries r
def uptoBulkEntry {H : Type} : Lit × DataW H → Nat
  | (.string bytes, d) => bytes.length + uptoBulk d + 1
  | (_, d) => uptoBulk d + 1
 end
def uptoSmall : (H : Type) → List (DataW H) → Bool := fun _ ds => decide (uptoBulkAll ds ≤ 1048576)
def OpenSpec.upto (s : _root_.Go.ChangeSpec) : _root_.Go.OpenSpec := { _root_.Go.OpenSpec.ofChange s with cond := some uptoSmall }

/-- 'copyholdlaw24.LeaseTimes', WHERE WHAT IT READS IS OF BULK AT MOST 1048576: true; the input reads as it did. -/
def leaseTimesUptoRow : OpenClaim := { program := "yticnnmoheijjdaa", sum := "acb60f5ac600f2be790a40b492f5534bd00ad3256c5463d9a9047b9fa8350e92", func := "copyhold/copyholdlaw24.LeaseTimes", spec := "leaseTimes", apart := false, narrowed := true }
def LeaseTimesUptoSaid : Prop := leaseTimesUptoRow.holds Try.pinned (OpenSpec.upto leaseTimesSpec)

/-- 'copyholdlaw24.LeaseKnown', WHERE WHAT IT READS IS OF BULK AT MOST 1048576: true; the input reads as it did. -/
def leaseKnownUptoRow : OpenClaim := { program := "yticnnmoheijjdaa", sum := "acb60f5ac600f2be790a40b492f5534bd00ad3256c5463d9a9047b9fa8350e92", func := "copyhold/copyholdlaw24.LeaseKnown", spec := "leaseKnown", apart := false, narrowed := true }
def LeaseKnownUptoSaid : Prop := leaseKnownUptoRow.holds Try.pinned (OpenSpec.upto leaseKnownSpec)

/-- 'copyholdlaw24.LeaseTells', WHERE WHAT IT READS IS OF BULK AT MOST 1048576: true; the input reads as it did. -/
def leaseTellsUptoRow : OpenClaim := { program := "yticnnmoheijjdaa", sum := "acb60f5ac600f2be790a40b492f5534bd00ad3256c5463d9a9047b9fa8350e92", func := "copyhold/copyholdlaw24.LeaseTells", spec := "leaseTells", apart := false, narrowed := true }
def LeaseTellsUptoSaid : Prop := leaseTellsUptoRow.holds Try.pinned (OpenSpec.upto leaseTellsSpec)

/-- 'copyholdlaw24.LeaseOwn', WHERE WHAT IT READS IS OF BULK AT MOST 1048576: true; the input reads as it did. -/
def leaseOwnUptoRow : OpenClaim := { program := "yticnnmoheijjdaa", sum := "acb60f5ac600f2be790a40b492f5534bd00ad3256c5463d9a9047b9fa8350e92", func := "copyhold/copyholdlaw24.LeaseOwn", spec := "leaseOwn", apart := false, narrowed := true }
def LeaseOwnUptoSaid : Prop := leaseOwnUptoRow.holds Try.pinned (OpenSpec.upto leaseOwnSpec)

/-- 'copyholdlaw24.LeaseApart', WHERE WHAT IT READS IS OF BULK AT MOST 1048576: true; the input reads as it did. -/
def leaseApartUptoRow : OpenClaim := { program := "yticnnmoheijjdaa", sum := "acb60f5ac600f2be790a40b492f5534bd00ad3256c5463d9a9047b9fa8350e92", func := "copyhold/copyholdlaw24.LeaseApart", spec := "leaseApart", apart := false, narrowed := true }
def LeaseApartUptoSaid : Prop := leaseApartUptoRow.holds Try.pinned (OpenSpec.upto leaseApartSpec)

end Rows
end Go.Proofs.Yticnnmoheijjdaa
