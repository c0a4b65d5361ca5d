/-
  No cell of these rows narrows 'for every input' (looked for: loops, veiled, ifaces, maps, wideKeys, modest, calm, conditions, laid).
  DERIVED. THE GIVEN ROWS OF THIS SEAT. 4 by the template 'for every input the law returns true; each argument reads behind the call as it read before'; 0 by the template 'total and deterministic' (their statements: YtiigmolppcaplaaGreatTotals.lean).
  GIVEN WITH THE SEED: the statements are not yours to turn. If you find one false, say at which input.
  Laid BY PROGRAM, IN A SANDBOX (cutbox-rows.mjs): the forced cells as the released guide's own fill.sh prints them over the translation 64e1713b9a290633… (all of the seat's roots in one cut). By AI agents, Wed Nov 11 2026. No macro, syntax, notation, axiom, sorry.
-/
import Derived.Test.YtiigmolppcaplaaGreatChecked
import GoSem.Claim
import GoSem.ClaimJoined
import GoSem.ClaimMapViews
import Derived.JoinedTies
import Derived.KernelRfl
namespace Go.Proofs.YtiigmolppcaplaaGreat
/- THE CELL 'sum', in the pinned program and in every row, IS THE sha256 OF THE DUMP (.gsa) THAT YtiigmolppcaplaaGreatProg.lean LOADS. Nothing in Lean hashes anything: it is a label: what it is worth is what the hold of that sum in a sandbox is worth. -/
noncomputable def Tryz.pinned : Pinned := { name := "ytiigmolppcaplaagreat", sum := "64e1713b9a290633d9332b78ebc65ee1bdd84ee7104e7a9cd2d544842bd9b82b", checked := Tryz.checked }
namespace Rows
def none {H : Type} : Left H := { results := [], args := [] }

/-- 'splitkeep1.FramesFollowMoments': WHATEVER THE INPUT: true; the input reads as it did. -/
def framesFollowMomentsSpec : ChangeSpec := { name := "framesFollowMoments", fn := fun _ => fun
  | [d] => { results := [.lit (.bool true)], args := [d] }
  | _ => none }
def framesFollowMomentsRow : OpenClaim := { program := "ytiigmolppcaplaagreat", sum := "64e1713b9a290633d9332b78ebc65ee1bdd84ee7104e7a9cd2d544842bd9b82b", func := "splitclock/splitkeep1.FramesFollowMoments", spec := "framesFollowMoments", inPlace := ["internal/bytealg.abigen_runtime_cmpstring"], unfollowed := true, recurses := true, plainKeys := false, apart := false }
def FramesFollowMomentsSaid : Prop := framesFollowMomentsRow.holds Tryz.pinned (OpenSpec.ofChange framesFollowMomentsSpec)

/-- ITS FALSE NEIGHBOUR: 'it returns false'. Refute it at one input. -/
def framesFollowMomentsWrong : ChangeSpec := { name := "framesFollowMoments", fn := fun _ => fun
  | [d] => { results := [.lit (.bool false)], args := [d] }
  | _ => none }
def FramesFollowMomentsWrongFalsely : Prop := framesFollowMomentsRow.holds Tryz.pinned (OpenSpec.ofChange framesFollowMomentsWrong)

/-- 'splitkeep1.TimesHaveBounds': WHATEVER THE INPUT: true; the input reads as it did. -/
def timesHaveBoundsSpec : ChangeSpec := { name := "timesHaveBounds", fn := fun _ => fun
  | [d] => { results := [.lit (.bool true)], args := [d] }
  | _ => none }
def timesHaveBoundsRow : OpenClaim := { program := "ytiigmolppcaplaagreat", sum := "64e1713b9a290633d9332b78ebc65ee1bdd84ee7104e7a9cd2d544842bd9b82b", func := "splitclock/splitkeep1.TimesHaveBounds", spec := "timesHaveBounds", inPlace := ["internal/bytealg.abigen_runtime_cmpstring"], unfollowed := true, recurses := true, plainKeys := false, apart := false }
def TimesHaveBoundsSaid : Prop := timesHaveBoundsRow.holds Tryz.pinned (OpenSpec.ofChange timesHaveBoundsSpec)

/-- ITS FALSE NEIGHBOUR: 'it returns false'. Refute it at one input. -/
def timesHaveBoundsWrong : ChangeSpec := { name := "timesHaveBounds", fn := fun _ => fun
  | [d] => { results := [.lit (.bool false)], args := [d] }
  | _ => none }
def TimesHaveBoundsWrongFalsely : Prop := timesHaveBoundsRow.holds Tryz.pinned (OpenSpec.ofChange timesHaveBoundsWrong)

/-- 'splittop.TopVideosAreAttempts': WHATEVER THE INPUT: true; the input reads as it did. -/
def topVideosAreAttemptsSpec : ChangeSpec := { name := "topVideosAreAttempts", fn := fun _ => fun
  | [d] => { results := [.lit (.bool true)], args := [d] }
  | _ => none }
def topVideosAreAttemptsRow : OpenClaim := { program := "ytiigmolppcaplaagreat", sum := "64e1713b9a290633d9332b78ebc65ee1bdd84ee7104e7a9cd2d544842bd9b82b", func := "splitclock/splittop.TopVideosAreAttempts", spec := "topVideosAreAttempts", inPlace := ["internal/bytealg.abigen_runtime_cmpstring"], unfollowed := true, recurses := true, plainKeys := false, apart := false }
def TopVideosAreAttemptsSaid : Prop := topVideosAreAttemptsRow.holds Tryz.pinned (OpenSpec.ofChange topVideosAreAttemptsSpec)

/-- ITS FALSE NEIGHBOUR: 'it returns false'. Refute it at one input. -/
def topVideosAreAttemptsWrong : ChangeSpec := { name := "topVideosAreAttempts", fn := fun _ => fun
  | [d] => { results := [.lit (.bool false)], args := [d] }
  | _ => none }
def TopVideosAreAttemptsWrongFalsely : Prop := topVideosAreAttemptsRow.holds Tryz.pinned (OpenSpec.ofChange topVideosAreAttemptsWrong)

/-- 'splitkeep1.CutsKeepFrames': WHATEVER THE INPUT: true; the input reads as it did. -/
def cutsKeepFramesSpec : ChangeSpec := { name := "cutsKeepFrames", fn := fun _ => fun
  | [d] => { results := [.lit (.bool true)], args := [d] }
  | _ => none }
def cutsKeepFramesRow : OpenClaim := { program := "ytiigmolppcaplaagreat", sum := "64e1713b9a290633d9332b78ebc65ee1bdd84ee7104e7a9cd2d544842bd9b82b", func := "splitclock/splitkeep1.CutsKeepFrames", spec := "cutsKeepFrames", inPlace := ["internal/bytealg.abigen_runtime_cmpstring"], unfollowed := true, recurses := true, plainKeys := false, apart := false }
def CutsKeepFramesSaid : Prop := cutsKeepFramesRow.holds Tryz.pinned (OpenSpec.ofChange cutsKeepFramesSpec)

/-- ITS FALSE NEIGHBOUR: 'it returns false'. Refute it at one input. -/
def cutsKeepFramesWrong : ChangeSpec := { name := "cutsKeepFrames", fn := fun _ => fun
  | [d] => { results := [.lit (.bool false)], args := [d] }
  | _ => none }
def CutsKeepFramesWrongFalsely : Prop := cutsKeepFramesRow.holds Tryz.pinned (OpenSpec.ofChange cutsKeepFramesWrong)

/- THE SECOND FORM. 'bulk': how many values and letters a reading holds, each counted each time it is reached (what is shared counts as often as it is met; a slice's spare places count too). A statement '..UptoSaid' is the law's where the arguments, and the package variables that the reading takes, are together of bulk at most 1048576: NARROWER than '..Said'. Prove '..Said' where nothing that the law and all that it calls make is longer than what came in: it says more and counts as full. Else prove '..UptoSaid'. A law counts once. -/
mutual
def uptoBulk {H : Type} : DataW H → Nat
  | .lit (.string bytes) => bytes.length + 1
  | .lit _ => 1
  | .nil => 1
  | .ptr d => uptoBulk d + 1
  | .slice elems spare => uptoBulkAll elems + uptoBulkAll spare + 1
  | .agg parts => uptoBulkAll parts + 1
  | .iface _ d => uptoBulk d + 1
  | .map entries => uptoBulkEntries entries + 1
  | .held _ => 1
def uptoBulkAll {H : Type} : List (DataW H) → Nat
  | [] => 0
  | d :: r => uptoBulk d + uptoBulkAll r
def uptoBulkEntries {H : Type} : List (Lit × DataW H) → Nat
  | [] => 0
  | x :: r => uptoBulkEntry x + uptoBulkEntries r
def uptoBulkEntry {H : Type} : Lit × DataW H → Nat
  | (.string bytes, d) => bytes.length + uptoBulk d + 1
  | (_, d) => uptoBulk d + 1
 end
def uptoSmall : (H : Type) → List (DataW H) → Bool := fun _ ds => decide (uptoBulkAll ds ≤ 1048576)
def OpenSpec.upto (s : _root_.Go.ChangeSpec) : _root_.Go.OpenSpec := { _root_.Go.OpenSpec.ofChange s with cond := some uptoSmall }

/-- 'splitkeep1.FramesFollowMoments', WHERE WHAT IT READS IS OF BULK AT MOST 1048576: true; the input reads as it did. -/
def framesFollowMomentsUptoRow : OpenClaim := { program := "ytiigmolppcaplaagreat", sum := "64e1713b9a290633d9332b78ebc65ee1bdd84ee7104e7a9cd2d544842bd9b82b", func := "splitclock/splitkeep1.FramesFollowMoments", spec := "framesFollowMoments", inPlace := ["internal/bytealg.abigen_runtime_cmpstring"], unfollowed := true, recurses := true, plainKeys := false, apart := false, narrowed := true }
def FramesFollowMomentsUptoSaid : Prop := framesFollowMomentsUptoRow.holds Tryz.pinned (OpenSpec.upto framesFollowMomentsSpec)

/-- 'splitkeep1.TimesHaveBounds', WHERE WHAT IT READS IS OF BULK AT MOST 1048576: true; the input reads as it did. -/
def timesHaveBoundsUptoRow : OpenClaim := { program := "ytiigmolppcaplaagreat", sum := "64e1713b9a290633d9332b78ebc65ee1bdd84ee7104e7a9cd2d544842bd9b82b", func := "splitclock/splitkeep1.TimesHaveBounds", spec := "timesHaveBounds", inPlace := ["internal/bytealg.abigen_runtime_cmpstring"], unfollowed := true, recurses := true, plainKeys := false, apart := false, narrowed := true }
def TimesHaveBoundsUptoSaid : Prop := timesHaveBoundsUptoRow.holds Tryz.pinned (OpenSpec.upto timesHaveBoundsSpec)

/-- 'splittop.TopVideosAreAttempts', WHERE WHAT IT READS IS OF BULK AT MOST 1048576: true; the input reads as it did. -/
def topVideosAreAttemptsUptoRow : OpenClaim := { program := "ytiigmolppcaplaagreat", sum := "64e1713b9a290633d9332b78ebc65ee1bdd84ee7104e7a9cd2d544842bd9b82b", func := "splitclock/splittop.TopVideosAreAttempts", spec := "topVideosAreAttempts", inPlace := ["internal/bytealg.abigen_runtime_cmpstring"], unfollowed := true, recurses := true, plainKeys := false, apart := false, narrowed := true }
def TopVideosAreAttemptsUptoSaid : Prop := topVideosAreAttemptsUptoRow.holds Tryz.pinned (OpenSpec.upto topVideosAreAttemptsSpec)

/-- 'splitkeep1.CutsKeepFrames', WHERE WHAT IT READS IS OF BULK AT MOST 1048576: true; the input reads as it did. -/
def cutsKeepFramesUptoRow : OpenClaim := { program := "ytiigmolppcaplaagreat", sum := "64e1713b9a290633d9332b78ebc65ee1bdd84ee7104e7a9cd2d544842bd9b82b", func := "splitclock/splitkeep1.CutsKeepFrames", spec := "cutsKeepFrames", inPlace := ["internal/bytealg.abigen_runtime_cmpstring"], unfollowed := true, recurses := true, plainKeys := false, apart := false, narrowed := true }
def CutsKeepFramesUptoSaid : Prop := cutsKeepFramesUptoRow.holds Tryz.pinned (OpenSpec.upto cutsKeepFramesSpec)

end Rows
end Go.Proofs.YtiigmolppcaplaaGreat
