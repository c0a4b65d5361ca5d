/-
  No cell of these rows narrows 'for every input' (looked for: loops, veiled, ifaces, maps, wideKeys, modest, calm, conditions, laid).
  DERIVED. THE GIVEN ROWS OF THIS SEAT. 4 by the template 'for every input the law returns true; each argument reads behind the call as it read before'; 0 by the template 'total and deterministic' (their statements: YtgkjpcapoofphaaTotals.lean).
  GIVEN WITH THE SEED: the statements are not yours to turn. If you find one false, say at which input.
  Laid BY PROGRAM, IN A SANDBOX (cutbox-rows.mjs): the forced cells as the released guide's own fill.sh prints them over the translation 70cbd564b9dbc353… (all of the seat's roots in one cut). By AI agents, Wed Nov 11 2026. No macro, syntax, notation, axiom, sorry.
-/
import Derived.Test.YtgkjpcapoofphaaChecked
import GoSem.Claim
import GoSem.ClaimJoined
import GoSem.ClaimMapViews
import Derived.JoinedTies
import Derived.KernelRfl
namespace Go.Proofs.Ytgkjpcapoofphaa
/- THE CELL 'sum', in the pinned program and in every row, IS THE sha256 OF THE DUMP (.gsa) THAT YtgkjpcapoofphaaProg.lean LOADS. Nothing in Lean hashes anything: it is a label: what it is worth is what the hold of that sum in a sandbox is worth. -/
noncomputable def Try.pinned : Pinned := { name := "ytgkjpcapoofphaa", sum := "70cbd564b9dbc3537950e7eefaa2c97524cb29e44fac83e673b0d0d2819fdb8e", checked := Try.checked }
namespace Rows
def none {H : Type} : Left H := { results := [], args := [] }

/-- 'splitlaw1.InputsFolded': WHATEVER THE INPUT: true; the input reads as it did. -/
def inputsFoldedSpec : ChangeSpec := { name := "inputsFolded", fn := fun _ => fun
  | [d] => { results := [.lit (.bool true)], args := [d] }
  | _ => none }
def inputsFoldedRow : OpenClaim := { program := "ytgkjpcapoofphaa", sum := "70cbd564b9dbc3537950e7eefaa2c97524cb29e44fac83e673b0d0d2819fdb8e", func := "splitclock/splitlaw1.InputsFolded", spec := "inputsFolded", apart := false }
def InputsFoldedSaid : Prop := inputsFoldedRow.holds Try.pinned (OpenSpec.ofChange inputsFoldedSpec)

/-- ITS FALSE NEIGHBOUR: 'it returns false'. Refute it at one input. -/
def inputsFoldedWrong : ChangeSpec := { name := "inputsFolded", fn := fun _ => fun
  | [d] => { results := [.lit (.bool false)], args := [d] }
  | _ => none }
def InputsFoldedWrongFalsely : Prop := inputsFoldedRow.holds Try.pinned (OpenSpec.ofChange inputsFoldedWrong)

/-- 'splitlaw1.StretchesTimed': WHATEVER THE INPUT: true; the input reads as it did. -/
def stretchesTimedSpec : ChangeSpec := { name := "stretchesTimed", fn := fun _ => fun
  | [d] => { results := [.lit (.bool true)], args := [d] }
  | _ => none }
def stretchesTimedRow : OpenClaim := { program := "ytgkjpcapoofphaa", sum := "70cbd564b9dbc3537950e7eefaa2c97524cb29e44fac83e673b0d0d2819fdb8e", func := "splitclock/splitlaw1.StretchesTimed", spec := "stretchesTimed", unfollowed := true, recurses := true, apart := false }
def StretchesTimedSaid : Prop := stretchesTimedRow.holds Try.pinned (OpenSpec.ofChange stretchesTimedSpec)

/-- ITS FALSE NEIGHBOUR: 'it returns false'. Refute it at one input. -/
def stretchesTimedWrong : ChangeSpec := { name := "stretchesTimed", fn := fun _ => fun
  | [d] => { results := [.lit (.bool false)], args := [d] }
  | _ => none }
def StretchesTimedWrongFalsely : Prop := stretchesTimedRow.holds Try.pinned (OpenSpec.ofChange stretchesTimedWrong)

/-- 'splitlaw1.MarksTimed': WHATEVER THE INPUT: true; the input reads as it did. -/
def marksTimedSpec : ChangeSpec := { name := "marksTimed", fn := fun _ => fun
  | [d] => { results := [.lit (.bool true)], args := [d] }
  | _ => none }
def marksTimedRow : OpenClaim := { program := "ytgkjpcapoofphaa", sum := "70cbd564b9dbc3537950e7eefaa2c97524cb29e44fac83e673b0d0d2819fdb8e", func := "splitclock/splitlaw1.MarksTimed", spec := "marksTimed", unfollowed := true, recurses := true, apart := false }
def MarksTimedSaid : Prop := marksTimedRow.holds Try.pinned (OpenSpec.ofChange marksTimedSpec)

/-- ITS FALSE NEIGHBOUR: 'it returns false'. Refute it at one input. -/
def marksTimedWrong : ChangeSpec := { name := "marksTimed", fn := fun _ => fun
  | [d] => { results := [.lit (.bool false)], args := [d] }
  | _ => none }
def MarksTimedWrongFalsely : Prop := marksTimedRow.holds Try.pinned (OpenSpec.ofChange marksTimedWrong)

/-- 'splitlaw1.InputsSpliced': WHATEVER THE INPUT: true; the input reads as it did. -/
def inputsSplicedSpec : ChangeSpec := { name := "inputsSpliced", fn := fun _ => fun
  | [d] => { results := [.lit (.bool true)], args := [d] }
  | _ => none }
def inputsSplicedRow : OpenClaim := { program := "ytgkjpcapoofphaa", sum := "70cbd564b9dbc3537950e7eefaa2c97524cb29e44fac83e673b0d0d2819fdb8e", func := "splitclock/splitlaw1.InputsSpliced", spec := "inputsSpliced", apart := false }
def InputsSplicedSaid : Prop := inputsSplicedRow.holds Try.pinned (OpenSpec.ofChange inputsSplicedSpec)

/-- ITS FALSE NEIGHBOUR: 'it returns false'. Refute it at one input. -/
def inputsSplicedWrong : ChangeSpec := { name := "inputsSpliced", fn := fun _ => fun
  | [d] => { results := [.lit (.bool false)], args := [d] }
  | _ => none }
def InputsSplicedWrongFalsely : Prop := inputsSplicedRow.holds Try.pinned (OpenSpec.ofChange inputsSplicedWrong)

/- THE SECOND FORM. 'bulk': how many values and letters a reading holds, each counted each time it is reached (what is shared counts as often as it is met; a slice's spare places count too). A statement '..UptoSaid' is the law's where the arguments, and the package variables that the reading takes, are together of bulk at most 1048576: NARROWER than '..Said'. Prove '..Said' where nothing that the law and all that it calls make is longer than what came in: it says more and counts as full. Else prove '..UptoSaid'. A law counts once. -/
mutual
def uptoBulk {H : Type} : DataW H → Nat
  | .lit (.string bytes) => bytes.length + 1
  | .lit _ => 1
  | .nil => 1
  | .ptr d => uptoBulk d + 1
  | .slice elems spare => uptoBulkAll elems + uptoBulkAll spare + 1
  | .agg parts => uptoBulkAll parts + 1
  | .iface _ d => uptoBulk d + 1
  | .map entries => uptoBulkEntries entries + 1
  | .held _ => 1
def uptoBulkAll {H : Type} : List (DataW H) → Nat
  | [] => 0
  | d :: r => uptoBulk d + uptoBulkAll r
def uptoBulkEntries {H : Type} : List (Lit × DataW H) → Nat
  | [] => 0
  | x :: r => uptoBulkEntry x + uptoBulkEntries r
def uptoBulkEntry {H : Type} : Lit × DataW H → Nat
  | (.string bytes, d) => bytes.length + uptoBulk d + 1
  | (_, d) => uptoBulk d + 1
 end
def uptoSmall : (H : Type) → List (DataW H) → Bool := fun _ ds => decide (uptoBulkAll ds ≤ 1048576)
def OpenSpec.upto (s : _root_.Go.ChangeSpec) : _root_.Go.OpenSpec := { _root_.Go.OpenSpec.ofChange s with cond := some uptoSmall }

/-- 'splitlaw1.InputsFolded', WHERE WHAT IT READS IS OF BULK AT MOST 1048576: true; the input reads as it did. -/
def inputsFoldedUptoRow : OpenClaim := { program := "ytgkjpcapoofphaa", sum := "70cbd564b9dbc3537950e7eefaa2c97524cb29e44fac83e673b0d0d2819fdb8e", func := "splitclock/splitlaw1.InputsFolded", spec := "inputsFolded", apart := false, narrowed := true }
def InputsFoldedUptoSaid : Prop := inputsFoldedUptoRow.holds Try.pinned (OpenSpec.upto inputsFoldedSpec)

/-- 'splitlaw1.StretchesTimed', WHERE WHAT IT READS IS OF BULK AT MOST 1048576: true; the input reads as it did. -/
def stretchesTimedUptoRow : OpenClaim := { program := "ytgkjpcapoofphaa", sum := "70cbd564b9dbc3537950e7eefaa2c97524cb29e44fac83e673b0d0d2819fdb8e", func := "splitclock/splitlaw1.StretchesTimed", spec := "stretchesTimed", unfollowed := true, recurses := true, apart := false, narrowed := true }
def StretchesTimedUptoSaid : Prop := stretchesTimedUptoRow.holds Try.pinned (OpenSpec.upto stretchesTimedSpec)

/-- 'splitlaw1.MarksTimed', WHERE WHAT IT READS IS OF BULK AT MOST 1048576: true; the input reads as it did. -/
def marksTimedUptoRow : OpenClaim := { program := "ytgkjpcapoofphaa", sum := "70cbd564b9dbc3537950e7eefaa2c97524cb29e44fac83e673b0d0d2819fdb8e", func := "splitclock/splitlaw1.MarksTimed", spec := "marksTimed", unfollowed := true, recurses := true, apart := false, narrowed := true }
def MarksTimedUptoSaid : Prop := marksTimedUptoRow.holds Try.pinned (OpenSpec.upto marksTimedSpec)

/-- 'splitlaw1.InputsSpliced', WHERE WHAT IT READS IS OF BULK AT MOST 1048576: true; the input reads as it did. -/
def inputsSplicedUptoRow : OpenClaim := { program := "ytgkjpcapoofphaa", sum := "70cbd564b9dbc3537950e7eefaa2c97524cb29e44fac83e673b0d0d2819fdb8e", func := "splitclock/splitlaw1.InputsSpliced", spec := "inputsSpliced", apart := false, narrowed := true }
def InputsSplicedUptoSaid : Prop := inputsSplicedUptoRow.holds Try.pinned (OpenSpec.upto inputsSplicedSpec)

end Rows
end Go.Proofs.Ytgkjpcapoofphaa
