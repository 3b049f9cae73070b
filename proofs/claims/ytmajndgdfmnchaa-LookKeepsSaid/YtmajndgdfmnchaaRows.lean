/-
  No cell of these rows narrows 'for every input' (looked for: loops, veiled, ifaces, maps, wideKeys, modest, calm, conditions, laid).
  DERIVED. THE GIVEN ROWS OF THIS SEAT. 9 by the template 'for every input the law returns true; each argument reads behind the call as it read before'; 0 by the template 'total and deterministic' (their statements: YtmajndgdfmnchaaTotals.lean).
  GIVEN WITH THE SEED: the statements are not yours to turn. If you find one false, say at which input.
  Laid BY PROGRAM, IN A SANDBOX (cutbox-rows.mjs): the forced cells as the released guide's own fill.sh prints them over the translation fe78212b190e4456… (all of the seat's roots in one cut). By AI agents, Wed Nov 11 2026. No macro, syntax, notation, axiom, sorry.
-/
import Derived.Test.YtmajndgdfmnchaaChecked
import GoSem.Claim
import GoSem.ClaimJoined
import GoSem.ClaimMapViews
import Derived.JoinedTies
import Derived.KernelRfl
namespace Go.Proofs.Ytmajndgdfmnchaa
/- THE CELL 'sum', in the pinned program and in every row, IS THE sha256 OF THE DUMP (.gsa) THAT YtmajndgdfmnchaaProg.lean LOADS. Nothing in Lean hashes anything: it is a label: what it is worth is what the hold of that sum in a sandbox is worth. -/
noncomputable def Try.pinned : Pinned := { name := "ytmajndgdfmnchaa", sum := "fe78212b190e445600e5b39f782a0ca117fcca545fa4b141823cbce92e1790a6", checked := Try.checked }
namespace Rows
def none {H : Type} : Left H := { results := [], args := [] }

/-- 'fletchlaw23.GhostChecks': WHATEVER THE INPUT: true; the input reads as it did. -/
def ghostChecksSpec : ChangeSpec := { name := "ghostChecks", fn := fun _ => fun
  | [d1, d2] => { results := [.lit (.bool true)], args := [d1, d2] }
  | _ => none }
def ghostChecksRow : OpenClaim := { program := "ytmajndgdfmnchaa", sum := "fe78212b190e445600e5b39f782a0ca117fcca545fa4b141823cbce92e1790a6", func := "fletch/fletchlaw23.GhostChecks", spec := "ghostChecks", plainKeys := false, apart := false }
def GhostChecksSaid : Prop := ghostChecksRow.holds Try.pinned (OpenSpec.ofChange ghostChecksSpec)

/-- ITS FALSE NEIGHBOUR: 'it returns false'. Refute it at one input. -/
def ghostChecksWrong : ChangeSpec := { name := "ghostChecks", fn := fun _ => fun
  | [d1, d2] => { results := [.lit (.bool false)], args := [d1, d2] }
  | _ => none }
def GhostChecksWrongFalsely : Prop := ghostChecksRow.holds Try.pinned (OpenSpec.ofChange ghostChecksWrong)

/-- 'fletchlaw23.GhostQueues': WHATEVER THE INPUT: true; the input reads as it did. -/
def ghostQueuesSpec : ChangeSpec := { name := "ghostQueues", fn := fun _ => fun
  | [d1, d2, d3] => { results := [.lit (.bool true)], args := [d1, d2, d3] }
  | _ => none }
def ghostQueuesRow : OpenClaim := { program := "ytmajndgdfmnchaa", sum := "fe78212b190e445600e5b39f782a0ca117fcca545fa4b141823cbce92e1790a6", func := "fletch/fletchlaw23.GhostQueues", spec := "ghostQueues", unfollowed := true, recurses := true, plainKeys := false, apart := false }
def GhostQueuesSaid : Prop := ghostQueuesRow.holds Try.pinned (OpenSpec.ofChange ghostQueuesSpec)

/-- ITS FALSE NEIGHBOUR: 'it returns false'. Refute it at one input. -/
def ghostQueuesWrong : ChangeSpec := { name := "ghostQueues", fn := fun _ => fun
  | [d1, d2, d3] => { results := [.lit (.bool false)], args := [d1, d2, d3] }
  | _ => none }
def GhostQueuesWrongFalsely : Prop := ghostQueuesRow.holds Try.pinned (OpenSpec.ofChange ghostQueuesWrong)

/-- 'fletchlaw23.GhostOnce': WHATEVER THE INPUT: true; the input reads as it did. -/
def ghostOnceSpec : ChangeSpec := { name := "ghostOnce", fn := fun _ => fun
  | [d1, d2, d3] => { results := [.lit (.bool true)], args := [d1, d2, d3] }
  | _ => none }
def ghostOnceRow : OpenClaim := { program := "ytmajndgdfmnchaa", sum := "fe78212b190e445600e5b39f782a0ca117fcca545fa4b141823cbce92e1790a6", func := "fletch/fletchlaw23.GhostOnce", spec := "ghostOnce", unfollowed := true, recurses := true, plainKeys := false, apart := false }
def GhostOnceSaid : Prop := ghostOnceRow.holds Try.pinned (OpenSpec.ofChange ghostOnceSpec)

/-- ITS FALSE NEIGHBOUR: 'it returns false'. Refute it at one input. -/
def ghostOnceWrong : ChangeSpec := { name := "ghostOnce", fn := fun _ => fun
  | [d1, d2, d3] => { results := [.lit (.bool false)], args := [d1, d2, d3] }
  | _ => none }
def GhostOnceWrongFalsely : Prop := ghostOnceRow.holds Try.pinned (OpenSpec.ofChange ghostOnceWrong)

/-- 'fletchlaw23.GhostKeeps': WHATEVER THE INPUT: true; the input reads as it did. -/
def ghostKeepsSpec : ChangeSpec := { name := "ghostKeeps", fn := fun _ => fun
  | [d1, d2, d3] => { results := [.lit (.bool true)], args := [d1, d2, d3] }
  | _ => none }
def ghostKeepsRow : OpenClaim := { program := "ytmajndgdfmnchaa", sum := "fe78212b190e445600e5b39f782a0ca117fcca545fa4b141823cbce92e1790a6", func := "fletch/fletchlaw23.GhostKeeps", spec := "ghostKeeps", unfollowed := true, recurses := true, plainKeys := false, apart := false }
def GhostKeepsSaid : Prop := ghostKeepsRow.holds Try.pinned (OpenSpec.ofChange ghostKeepsSpec)

/-- ITS FALSE NEIGHBOUR: 'it returns false'. Refute it at one input. -/
def ghostKeepsWrong : ChangeSpec := { name := "ghostKeeps", fn := fun _ => fun
  | [d1, d2, d3] => { results := [.lit (.bool false)], args := [d1, d2, d3] }
  | _ => none }
def GhostKeepsWrongFalsely : Prop := ghostKeepsRow.holds Try.pinned (OpenSpec.ofChange ghostKeepsWrong)

/-- 'fletchlaw23.GhostDiffs': WHATEVER THE INPUT: true; the input reads as it did. -/
def ghostDiffsSpec : ChangeSpec := { name := "ghostDiffs", fn := fun _ => fun
  | [d1, d2, d3] => { results := [.lit (.bool true)], args := [d1, d2, d3] }
  | _ => none }
def ghostDiffsRow : OpenClaim := { program := "ytmajndgdfmnchaa", sum := "fe78212b190e445600e5b39f782a0ca117fcca545fa4b141823cbce92e1790a6", func := "fletch/fletchlaw23.GhostDiffs", spec := "ghostDiffs", unfollowed := true, recurses := true, plainKeys := false, apart := false }
def GhostDiffsSaid : Prop := ghostDiffsRow.holds Try.pinned (OpenSpec.ofChange ghostDiffsSpec)

/-- ITS FALSE NEIGHBOUR: 'it returns false'. Refute it at one input. -/
def ghostDiffsWrong : ChangeSpec := { name := "ghostDiffs", fn := fun _ => fun
  | [d1, d2, d3] => { results := [.lit (.bool false)], args := [d1, d2, d3] }
  | _ => none }
def GhostDiffsWrongFalsely : Prop := ghostDiffsRow.holds Try.pinned (OpenSpec.ofChange ghostDiffsWrong)

/-- 'fletchlaw19.LookFits': WHATEVER THE INPUT: true; the input reads as it did. -/
def lookFitsSpec : ChangeSpec := { name := "lookFits", fn := fun _ => fun
  | [d1, d2, d3] => { results := [.lit (.bool true)], args := [d1, d2, d3] }
  | _ => none }
def lookFitsRow : OpenClaim := { program := "ytmajndgdfmnchaa", sum := "fe78212b190e445600e5b39f782a0ca117fcca545fa4b141823cbce92e1790a6", func := "fletch/fletchlaw19.LookFits", spec := "lookFits", unfollowed := true, recurses := true, plainKeys := false, apart := false }
def LookFitsSaid : Prop := lookFitsRow.holds Try.pinned (OpenSpec.ofChange lookFitsSpec)

/-- ITS FALSE NEIGHBOUR: 'it returns false'. Refute it at one input. -/
def lookFitsWrong : ChangeSpec := { name := "lookFits", fn := fun _ => fun
  | [d1, d2, d3] => { results := [.lit (.bool false)], args := [d1, d2, d3] }
  | _ => none }
def LookFitsWrongFalsely : Prop := lookFitsRow.holds Try.pinned (OpenSpec.ofChange lookFitsWrong)

/-- 'fletchlaw19.LookLaws': WHATEVER THE INPUT: true; the input reads as it did. -/
def lookLawsSpec : ChangeSpec := { name := "lookLaws", fn := fun _ => fun
  | [d1, d2, d3] => { results := [.lit (.bool true)], args := [d1, d2, d3] }
  | _ => none }
def lookLawsRow : OpenClaim := { program := "ytmajndgdfmnchaa", sum := "fe78212b190e445600e5b39f782a0ca117fcca545fa4b141823cbce92e1790a6", func := "fletch/fletchlaw19.LookLaws", spec := "lookLaws", unfollowed := true, recurses := true, plainKeys := false, apart := false }
def LookLawsSaid : Prop := lookLawsRow.holds Try.pinned (OpenSpec.ofChange lookLawsSpec)

/-- ITS FALSE NEIGHBOUR: 'it returns false'. Refute it at one input. -/
def lookLawsWrong : ChangeSpec := { name := "lookLaws", fn := fun _ => fun
  | [d1, d2, d3] => { results := [.lit (.bool false)], args := [d1, d2, d3] }
  | _ => none }
def LookLawsWrongFalsely : Prop := lookLawsRow.holds Try.pinned (OpenSpec.ofChange lookLawsWrong)

/-- 'fletchlaw19.LookFirsts': WHATEVER THE INPUT: true; the input reads as it did. -/
def lookFirstsSpec : ChangeSpec := { name := "lookFirsts", fn := fun _ => fun
  | [d1, d2] => { results := [.lit (.bool true)], args := [d1, d2] }
  | _ => none }
def lookFirstsRow : OpenClaim := { program := "ytmajndgdfmnchaa", sum := "fe78212b190e445600e5b39f782a0ca117fcca545fa4b141823cbce92e1790a6", func := "fletch/fletchlaw19.LookFirsts", spec := "lookFirsts", unfollowed := true, recurses := true, plainKeys := false, apart := false }
def LookFirstsSaid : Prop := lookFirstsRow.holds Try.pinned (OpenSpec.ofChange lookFirstsSpec)

/-- ITS FALSE NEIGHBOUR: 'it returns false'. Refute it at one input. -/
def lookFirstsWrong : ChangeSpec := { name := "lookFirsts", fn := fun _ => fun
  | [d1, d2] => { results := [.lit (.bool false)], args := [d1, d2] }
  | _ => none }
def LookFirstsWrongFalsely : Prop := lookFirstsRow.holds Try.pinned (OpenSpec.ofChange lookFirstsWrong)

/-- 'fletchlaw19.LookKeeps': WHATEVER THE INPUT: true; the input reads as it did. -/
def lookKeepsSpec : ChangeSpec := { name := "lookKeeps", fn := fun _ => fun
  | [d1, d2, d3] => { results := [.lit (.bool true)], args := [d1, d2, d3] }
  | _ => none }
def lookKeepsRow : OpenClaim := { program := "ytmajndgdfmnchaa", sum := "fe78212b190e445600e5b39f782a0ca117fcca545fa4b141823cbce92e1790a6", func := "fletch/fletchlaw19.LookKeeps", spec := "lookKeeps", unfollowed := true, recurses := true, plainKeys := false, apart := false }
def LookKeepsSaid : Prop := lookKeepsRow.holds Try.pinned (OpenSpec.ofChange lookKeepsSpec)

/-- ITS FALSE NEIGHBOUR: 'it returns false'. Refute it at one input. -/
def lookKeepsWrong : ChangeSpec := { name := "lookKeeps", fn := fun _ => fun
  | [d1, d2, d3] => { results := [.lit (.bool false)], args := [d1, d2, d3] }
  | _ => none }
def LookKeepsWrongFalsely : Prop := lookKeepsRow.holds Try.pinned (OpenSpec.ofChange lookKeepsWrong)

/- THE SECOND FORM. 'bulk': how many values and letters a reading holds, each counted each time it is reached (what is shared counts as often as it is met; a slice's spare places count too). A statement '..UptoSaid' is the law's where the arguments, and the package variables that the reading takes, are together of bulk at most 1048576: NARROWER than '..Said'. Prove '..Said' where nothing that the law and all that it calls make is longer than what came in: it says more and counts as full. Else prove '..UptoSaid'. A law counts once. -/
mutual
def uptoBulk {H : Type} : DataW H → Nat
  | .lit (.string bytes) => bytes.length + 1
  | .lit _ => 1
  | .nil => 1
  | .ptr d => uptoBulk d + 1
  | .slice elems spare => uptoBulkAll elems + uptoBulkAll spare + 1
  | .agg parts => uptoBulkAll parts + 1
  | .iface _ d => uptoBulk d + 1
  | .map entries => uptoBulkEntries entries + 1
  | .held _ => 1
def uptoBulkAll {H : Type} : List (DataW H) → Nat
  | [] => 0
  | d :: r => uptoBulk d + uptoBulkAll r
def uptoBulkEntries {H : Type} : List (Lit × DataW H) → Nat
  | [] => 0
  | x :: r => uptoBulkEntry x + uptoBulkEntries r
def uptoBulkEntry {H : Type} : Lit × DataW H → Nat
  | (.string bytes, d) => bytes.length + uptoBulk d + 1
  | (_, d) => uptoBulk d + 1
 end
def uptoSmall : (H : Type) → List (DataW H) → Bool := fun _ ds => decide (uptoBulkAll ds ≤ 1048576)
def OpenSpec.upto (s : _root_.Go.ChangeSpec) : _root_.Go.OpenSpec := { _root_.Go.OpenSpec.ofChange s with cond := some uptoSmall }

/-- 'fletchlaw23.GhostChecks', WHERE WHAT IT READS IS OF BULK AT MOST 1048576: true; the input reads as it did. -/
def ghostChecksUptoRow : OpenClaim := { program := "ytmajndgdfmnchaa", sum := "fe78212b190e445600e5b39f782a0ca117fcca545fa4b141823cbce92e1790a6", func := "fletch/fletchlaw23.GhostChecks", spec := "ghostChecks", plainKeys := false, apart := false, narrowed := true }
def GhostChecksUptoSaid : Prop := ghostChecksUptoRow.holds Try.pinned (OpenSpec.upto ghostChecksSpec)

/-- 'fletchlaw23.GhostQueues', WHERE WHAT IT READS IS OF BULK AT MOST 1048576: true; the input reads as it did. -/
def ghostQueuesUptoRow : OpenClaim := { program := "ytmajndgdfmnchaa", sum := "fe78212b190e445600e5b39f782a0ca117fcca545fa4b141823cbce92e1790a6", func := "fletch/fletchlaw23.GhostQueues", spec := "ghostQueues", unfollowed := true, recurses := true, plainKeys := false, apart := false, narrowed := true }
def GhostQueuesUptoSaid : Prop := ghostQueuesUptoRow.holds Try.pinned (OpenSpec.upto ghostQueuesSpec)

/-- 'fletchlaw23.GhostOnce', WHERE WHAT IT READS IS OF BULK AT MOST 1048576: true; the input reads as it did. -/
def ghostOnceUptoRow : OpenClaim := { program := "ytmajndgdfmnchaa", sum := "fe78212b190e445600e5b39f782a0ca117fcca545fa4b141823cbce92e1790a6", func := "fletch/fletchlaw23.GhostOnce", spec := "ghostOnce", unfollowed := true, recurses := true, plainKeys := false, apart := false, narrowed := true }
def GhostOnceUptoSaid : Prop := ghostOnceUptoRow.holds Try.pinned (OpenSpec.upto ghostOnceSpec)

/-- 'fletchlaw23.GhostKeeps', WHERE WHAT IT READS IS OF BULK AT MOST 1048576: true; the input reads as it did. -/
def ghostKeepsUptoRow : OpenClaim := { program := "ytmajndgdfmnchaa", sum := "fe78212b190e445600e5b39f782a0ca117fcca545fa4b141823cbce92e1790a6", func := "fletch/fletchlaw23.GhostKeeps", spec := "ghostKeeps", unfollowed := true, recurses := true, plainKeys := false, apart := false, narrowed := true }
def GhostKeepsUptoSaid : Prop := ghostKeepsUptoRow.holds Try.pinned (OpenSpec.upto ghostKeepsSpec)

/-- 'fletchlaw23.GhostDiffs', WHERE WHAT IT READS IS OF BULK AT MOST 1048576: true; the input reads as it did. -/
def ghostDiffsUptoRow : OpenClaim := { program := "ytmajndgdfmnchaa", sum := "fe78212b190e445600e5b39f782a0ca117fcca545fa4b141823cbce92e1790a6", func := "fletch/fletchlaw23.GhostDiffs", spec := "ghostDiffs", unfollowed := true, recurses := true, plainKeys := false, apart := false, narrowed := true }
def GhostDiffsUptoSaid : Prop := ghostDiffsUptoRow.holds Try.pinned (OpenSpec.upto ghostDiffsSpec)

/-- 'fletchlaw19.LookFits', WHERE WHAT IT READS IS OF BULK AT MOST 1048576: true; the input reads as it did. -/
def lookFitsUptoRow : OpenClaim := { program := "ytmajndgdfmnchaa", sum := "fe78212b190e445600e5b39f782a0ca117fcca545fa4b141823cbce92e1790a6", func := "fletch/fletchlaw19.LookFits", spec := "lookFits", unfollowed := true, recurses := true, plainKeys := false, apart := false, narrowed := true }
def LookFitsUptoSaid : Prop := lookFitsUptoRow.holds Try.pinned (OpenSpec.upto lookFitsSpec)

/-- 'fletchlaw19.LookLaws', WHERE WHAT IT READS IS OF BULK AT MOST 1048576: true; the input reads as it did. -/
def lookLawsUptoRow : OpenClaim := { program := "ytmajndgdfmnchaa", sum := "fe78212b190e445600e5b39f782a0ca117fcca545fa4b141823cbce92e1790a6", func := "fletch/fletchlaw19.LookLaws", spec := "lookLaws", unfollowed := true, recurses := true, plainKeys := false, apart := false, narrowed := true }
def LookLawsUptoSaid : Prop := lookLawsUptoRow.holds Try.pinned (OpenSpec.upto lookLawsSpec)

/-- 'fletchlaw19.LookFirsts', WHERE WHAT IT READS IS OF BULK AT MOST 1048576: true; the input reads as it did. -/
def lookFirstsUptoRow : OpenClaim := { program := "ytmajndgdfmnchaa", sum := "fe78212b190e445600e5b39f782a0ca117fcca545fa4b141823cbce92e1790a6", func := "fletch/fletchlaw19.LookFirsts", spec := "lookFirsts", unfollowed := true, recurses := true, plainKeys := false, apart := false, narrowed := true }
def LookFirstsUptoSaid : Prop := lookFirstsUptoRow.holds Try.pinned (OpenSpec.upto lookFirstsSpec)

/-- 'fletchlaw19.LookKeeps', WHERE WHAT IT READS IS OF BULK AT MOST 1048576: true; the input reads as it did. -/
def lookKeepsUptoRow : OpenClaim := { program := "ytmajndgdfmnchaa", sum := "fe78212b190e445600e5b39f782a0ca117fcca545fa4b141823cbce92e1790a6", func := "fletch/fletchlaw19.LookKeeps", spec := "lookKeeps", unfollowed := true, recurses := true, plainKeys := false, apart := false, narrowed := true }
def LookKeepsUptoSaid : Prop := lookKeepsUptoRow.holds Try.pinned (OpenSpec.upto lookKeepsSpec)

end Rows
end Go.Proofs.Ytmajndgdfmnchaa
