/-
  No cell of these rows narrows 'for every input' (looked for: loops, veiled, ifaces, maps, wideKeys, modest, calm, conditions, laid).
  DERIVED. THE GIVEN ROWS OF THIS SEAT. 11 by the template 'for every input the law returns true; each argument reads behind the call as it read before'; 0 by the template 'total and deterministic' (their statements: YtfhfkijmebhgmaaGreatTotals.lean).
  GIVEN WITH THE SEED: the statements are not yours to turn. If you find one false, say at which input.
  Laid BY PROGRAM, IN A SANDBOX (cutbox-rows.mjs): the forced cells as the released guide's own fill.sh prints them over the translation 8ca7fe60ed1c4059… (all of the seat's roots in one cut). By AI agents, Wed Nov 11 2026. No macro, syntax, notation, axiom, sorry.
-/
import Derived.Test.YtfhfkijmebhgmaaGreatChecked
import GoSem.Claim
import GoSem.ClaimJoined
import GoSem.ClaimMapViews
import Derived.JoinedTies
import Derived.KernelRfl
namespace Go.Proofs.YtfhfkijmebhgmaaGreat
/- THE CELL 'sum', in the pinned program and in every row, IS THE sha256 OF THE DUMP (.gsa) THAT YtfhfkijmebhgmaaGreatProg.lean LOADS. Nothing in Lean hashes anything: it is a label: what it is worth is what the hold of that sum in a sandbox is worth. -/
noncomputable def Tryz.pinned : Pinned := { name := "ytfhfkijmebhgmaagreat", sum := "8ca7fe60ed1c40598bf144ee6ec97426faeaf005bc35aec01e21ab67f6513306", checked := Tryz.checked }
namespace Rows
def none {H : Type} : Left H := { results := [], args := [] }

/-- 'weighhouselaw.RestStates': WHATEVER THE INPUT: true; the input reads as it did. -/
def restStatesSpec : ChangeSpec := { name := "restStates", fn := fun _ => fun
  | [d1, d2, d3] => { results := [.lit (.bool true)], args := [d1, d2, d3] }
  | _ => none }
def restStatesRow : OpenClaim := { program := "ytfhfkijmebhgmaagreat", sum := "8ca7fe60ed1c40598bf144ee6ec97426faeaf005bc35aec01e21ab67f6513306", func := "weighhouse/weighhouselaw.RestStates", spec := "restStates", inPlace := ["slices.overlaps[weighhouse/api.Hold]"], unfollowed := true, recurses := true, apart := false }
def RestStatesSaid : Prop := restStatesRow.holds Tryz.pinned (OpenSpec.ofChange restStatesSpec)

/-- ITS FALSE NEIGHBOUR: 'it returns false'. Refute it at one input. -/
def restStatesWrong : ChangeSpec := { name := "restStates", fn := fun _ => fun
  | [d1, d2, d3] => { results := [.lit (.bool false)], args := [d1, d2, d3] }
  | _ => none }
def RestStatesWrongFalsely : Prop := restStatesRow.holds Tryz.pinned (OpenSpec.ofChange restStatesWrong)

/-- 'weighhouselaw.CountCounts': WHATEVER THE INPUT: true; the input reads as it did. -/
def countCountsSpec : ChangeSpec := { name := "countCounts", fn := fun _ => fun
  | [d1, d2, d3, d4, d5] => { results := [.lit (.bool true)], args := [d1, d2, d3, d4, d5] }
  | _ => none }
def countCountsRow : OpenClaim := { program := "ytfhfkijmebhgmaagreat", sum := "8ca7fe60ed1c40598bf144ee6ec97426faeaf005bc35aec01e21ab67f6513306", func := "weighhouse/weighhouselaw.CountCounts", spec := "countCounts", inPlace := ["slices.overlaps[weighhouse/api.Hold]"], unfollowed := true, recurses := true, apart := false }
def CountCountsSaid : Prop := countCountsRow.holds Tryz.pinned (OpenSpec.ofChange countCountsSpec)

/-- ITS FALSE NEIGHBOUR: 'it returns false'. Refute it at one input. -/
def countCountsWrong : ChangeSpec := { name := "countCounts", fn := fun _ => fun
  | [d1, d2, d3, d4, d5] => { results := [.lit (.bool false)], args := [d1, d2, d3, d4, d5] }
  | _ => none }
def CountCountsWrongFalsely : Prop := countCountsRow.holds Tryz.pinned (OpenSpec.ofChange countCountsWrong)

/-- 'weighhouselaw.CountTrue': WHATEVER THE INPUT: true; the input reads as it did. -/
def countTrueSpec : ChangeSpec := { name := "countTrue", fn := fun _ => fun
  | [d1, d2, d3, d4, d5] => { results := [.lit (.bool true)], args := [d1, d2, d3, d4, d5] }
  | _ => none }
def countTrueRow : OpenClaim := { program := "ytfhfkijmebhgmaagreat", sum := "8ca7fe60ed1c40598bf144ee6ec97426faeaf005bc35aec01e21ab67f6513306", func := "weighhouse/weighhouselaw.CountTrue", spec := "countTrue", inPlace := ["slices.overlaps[weighhouse/api.Hold]"], unfollowed := true, recurses := true, apart := false }
def CountTrueSaid : Prop := countTrueRow.holds Tryz.pinned (OpenSpec.ofChange countTrueSpec)

/-- ITS FALSE NEIGHBOUR: 'it returns false'. Refute it at one input. -/
def countTrueWrong : ChangeSpec := { name := "countTrue", fn := fun _ => fun
  | [d1, d2, d3, d4, d5] => { results := [.lit (.bool false)], args := [d1, d2, d3, d4, d5] }
  | _ => none }
def CountTrueWrongFalsely : Prop := countTrueRow.holds Tryz.pinned (OpenSpec.ofChange countTrueWrong)

/-- 'weighhouselaw.CountMore': WHATEVER THE INPUT: true; the input reads as it did. -/
def countMoreSpec : ChangeSpec := { name := "countMore", fn := fun _ => fun
  | [d1, d2, d3, d4, d5] => { results := [.lit (.bool true)], args := [d1, d2, d3, d4, d5] }
  | _ => none }
def countMoreRow : OpenClaim := { program := "ytfhfkijmebhgmaagreat", sum := "8ca7fe60ed1c40598bf144ee6ec97426faeaf005bc35aec01e21ab67f6513306", func := "weighhouse/weighhouselaw.CountMore", spec := "countMore", inPlace := ["slices.overlaps[weighhouse/api.Hold]"], unfollowed := true, recurses := true, apart := false }
def CountMoreSaid : Prop := countMoreRow.holds Tryz.pinned (OpenSpec.ofChange countMoreSpec)

/-- ITS FALSE NEIGHBOUR: 'it returns false'. Refute it at one input. -/
def countMoreWrong : ChangeSpec := { name := "countMore", fn := fun _ => fun
  | [d1, d2, d3, d4, d5] => { results := [.lit (.bool false)], args := [d1, d2, d3, d4, d5] }
  | _ => none }
def CountMoreWrongFalsely : Prop := countMoreRow.holds Tryz.pinned (OpenSpec.ofChange countMoreWrong)

/-- 'weighhouselaw.BookKept': WHATEVER THE INPUT: true; the input reads as it did. -/
def bookKeptSpec : ChangeSpec := { name := "bookKept", fn := fun _ => fun
  | [d1, d2, d3] => { results := [.lit (.bool true)], args := [d1, d2, d3] }
  | _ => none }
def bookKeptRow : OpenClaim := { program := "ytfhfkijmebhgmaagreat", sum := "8ca7fe60ed1c40598bf144ee6ec97426faeaf005bc35aec01e21ab67f6513306", func := "weighhouse/weighhouselaw.BookKept", spec := "bookKept", inPlace := ["slices.overlaps[weighhouse/api.Hold]"], unfollowed := true, recurses := true, apart := false }
def BookKeptSaid : Prop := bookKeptRow.holds Tryz.pinned (OpenSpec.ofChange bookKeptSpec)

/-- ITS FALSE NEIGHBOUR: 'it returns false'. Refute it at one input. -/
def bookKeptWrong : ChangeSpec := { name := "bookKept", fn := fun _ => fun
  | [d1, d2, d3] => { results := [.lit (.bool false)], args := [d1, d2, d3] }
  | _ => none }
def BookKeptWrongFalsely : Prop := bookKeptRow.holds Tryz.pinned (OpenSpec.ofChange bookKeptWrong)

/-- 'weighhouselaw.LogDoes': WHATEVER THE INPUT: true; the input reads as it did. -/
def logDoesSpec : ChangeSpec := { name := "logDoes", fn := fun _ => fun
  | [d1, d2, d3] => { results := [.lit (.bool true)], args := [d1, d2, d3] }
  | _ => none }
def logDoesRow : OpenClaim := { program := "ytfhfkijmebhgmaagreat", sum := "8ca7fe60ed1c40598bf144ee6ec97426faeaf005bc35aec01e21ab67f6513306", func := "weighhouse/weighhouselaw.LogDoes", spec := "logDoes", inPlace := ["slices.overlaps[weighhouse/api.Hold]"], unfollowed := true, recurses := true, apart := false }
def LogDoesSaid : Prop := logDoesRow.holds Tryz.pinned (OpenSpec.ofChange logDoesSpec)

/-- ITS FALSE NEIGHBOUR: 'it returns false'. Refute it at one input. -/
def logDoesWrong : ChangeSpec := { name := "logDoes", fn := fun _ => fun
  | [d1, d2, d3] => { results := [.lit (.bool false)], args := [d1, d2, d3] }
  | _ => none }
def LogDoesWrongFalsely : Prop := logDoesRow.holds Tryz.pinned (OpenSpec.ofChange logDoesWrong)

/-- 'weighhouselaw.LogReplays': WHATEVER THE INPUT: true; the input reads as it did. -/
def logReplaysSpec : ChangeSpec := { name := "logReplays", fn := fun _ => fun
  | [d1, d2] => { results := [.lit (.bool true)], args := [d1, d2] }
  | _ => none }
def logReplaysRow : OpenClaim := { program := "ytfhfkijmebhgmaagreat", sum := "8ca7fe60ed1c40598bf144ee6ec97426faeaf005bc35aec01e21ab67f6513306", func := "weighhouse/weighhouselaw.LogReplays", spec := "logReplays", inPlace := ["slices.overlaps[weighhouse/api.Hold]"], unfollowed := true, recurses := true, apart := false }
def LogReplaysSaid : Prop := logReplaysRow.holds Tryz.pinned (OpenSpec.ofChange logReplaysSpec)

/-- ITS FALSE NEIGHBOUR: 'it returns false'. Refute it at one input. -/
def logReplaysWrong : ChangeSpec := { name := "logReplays", fn := fun _ => fun
  | [d1, d2] => { results := [.lit (.bool false)], args := [d1, d2] }
  | _ => none }
def LogReplaysWrongFalsely : Prop := logReplaysRow.holds Tryz.pinned (OpenSpec.ofChange logReplaysWrong)

/-- 'weighhouselaw.LogRecovers': WHATEVER THE INPUT: true; the input reads as it did. -/
def logRecoversSpec : ChangeSpec := { name := "logRecovers", fn := fun _ => fun
  | [d1, d2] => { results := [.lit (.bool true)], args := [d1, d2] }
  | _ => none }
def logRecoversRow : OpenClaim := { program := "ytfhfkijmebhgmaagreat", sum := "8ca7fe60ed1c40598bf144ee6ec97426faeaf005bc35aec01e21ab67f6513306", func := "weighhouse/weighhouselaw.LogRecovers", spec := "logRecovers", inPlace := ["slices.overlaps[weighhouse/api.Hold]"], unfollowed := true, recurses := true, apart := false }
def LogRecoversSaid : Prop := logRecoversRow.holds Tryz.pinned (OpenSpec.ofChange logRecoversSpec)

/-- ITS FALSE NEIGHBOUR: 'it returns false'. Refute it at one input. -/
def logRecoversWrong : ChangeSpec := { name := "logRecovers", fn := fun _ => fun
  | [d1, d2] => { results := [.lit (.bool false)], args := [d1, d2] }
  | _ => none }
def LogRecoversWrongFalsely : Prop := logRecoversRow.holds Tryz.pinned (OpenSpec.ofChange logRecoversWrong)

/-- 'weighhouselaw.LogKept': WHATEVER THE INPUT: true; the input reads as it did. -/
def logKeptSpec : ChangeSpec := { name := "logKept", fn := fun _ => fun
  | [d1, d2, d3] => { results := [.lit (.bool true)], args := [d1, d2, d3] }
  | _ => none }
def logKeptRow : OpenClaim := { program := "ytfhfkijmebhgmaagreat", sum := "8ca7fe60ed1c40598bf144ee6ec97426faeaf005bc35aec01e21ab67f6513306", func := "weighhouse/weighhouselaw.LogKept", spec := "logKept", inPlace := ["slices.overlaps[weighhouse/api.Hold]"], unfollowed := true, recurses := true, apart := false }
def LogKeptSaid : Prop := logKeptRow.holds Tryz.pinned (OpenSpec.ofChange logKeptSpec)

/-- ITS FALSE NEIGHBOUR: 'it returns false'. Refute it at one input. -/
def logKeptWrong : ChangeSpec := { name := "logKept", fn := fun _ => fun
  | [d1, d2, d3] => { results := [.lit (.bool false)], args := [d1, d2, d3] }
  | _ => none }
def LogKeptWrongFalsely : Prop := logKeptRow.holds Tryz.pinned (OpenSpec.ofChange logKeptWrong)

/-- 'weighhouselaw.LogMore': WHATEVER THE INPUT: true; the input reads as it did. -/
def logMoreSpec : ChangeSpec := { name := "logMore", fn := fun _ => fun
  | [d1, d2, d3] => { results := [.lit (.bool true)], args := [d1, d2, d3] }
  | _ => none }
def logMoreRow : OpenClaim := { program := "ytfhfkijmebhgmaagreat", sum := "8ca7fe60ed1c40598bf144ee6ec97426faeaf005bc35aec01e21ab67f6513306", func := "weighhouse/weighhouselaw.LogMore", spec := "logMore", inPlace := ["slices.overlaps[weighhouse/api.Hold]"], unfollowed := true, recurses := true, apart := false }
def LogMoreSaid : Prop := logMoreRow.holds Tryz.pinned (OpenSpec.ofChange logMoreSpec)

/-- ITS FALSE NEIGHBOUR: 'it returns false'. Refute it at one input. -/
def logMoreWrong : ChangeSpec := { name := "logMore", fn := fun _ => fun
  | [d1, d2, d3] => { results := [.lit (.bool false)], args := [d1, d2, d3] }
  | _ => none }
def LogMoreWrongFalsely : Prop := logMoreRow.holds Tryz.pinned (OpenSpec.ofChange logMoreWrong)

/-- 'weighhouselaw.LogRight': WHATEVER THE INPUT: true; the input reads as it did. -/
def logRightSpec : ChangeSpec := { name := "logRight", fn := fun _ => fun
  | [d1, d2, d3, d4] => { results := [.lit (.bool true)], args := [d1, d2, d3, d4] }
  | _ => none }
def logRightRow : OpenClaim := { program := "ytfhfkijmebhgmaagreat", sum := "8ca7fe60ed1c40598bf144ee6ec97426faeaf005bc35aec01e21ab67f6513306", func := "weighhouse/weighhouselaw.LogRight", spec := "logRight", inPlace := ["slices.overlaps[weighhouse/api.Hold]"], unfollowed := true, recurses := true, apart := false }
def LogRightSaid : Prop := logRightRow.holds Tryz.pinned (OpenSpec.ofChange logRightSpec)

/-- ITS FALSE NEIGHBOUR: 'it returns false'. Refute it at one input. -/
def logRightWrong : ChangeSpec := { name := "logRight", fn := fun _ => fun
  | [d1, d2, d3, d4] => { results := [.lit (.bool false)], args := [d1, d2, d3, d4] }
  | _ => none }
def LogRightWrongFalsely : Prop := logRightRow.holds Tryz.pinned (OpenSpec.ofChange logRightWrong)

/- THE SECOND FORM. 'bulk': how many values and letters a reading holds, each counted each time it is reached (what is shared counts as often as it is met; a slice's spare places count too). A statement '..UptoSaid' is the law's where the arguments, and the package variables that the reading takes, are together of bulk at most 1048576: NARROWER than '..Said'. Prove '..Said' where nothing that the law and all that it calls make is longer than what came in: it says more and counts as full. Else prove '..UptoSaid'. A law counts once. -/
mutual
def uptoBulk {H : Type} : DataW H → Nat
  | .lit (.string bytes) => bytes.length + 1
  | .lit _ => 1
  | .nil => 1
  | .ptr d => uptoBulk d + 1
  | .slice elems spare => uptoBulkAll elems + uptoBulkAll spare + 1
  | .agg parts => uptoBulkAll parts + 1
  | .iface _ d => uptoBulk d + 1
  | .map entries => uptoBulkEntries entries + 1
  | .held _ => 1
def uptoBulkAll {H : Type} : List (DataW H) → Nat
  | [] => 0
  | d :: r => uptoBulk d + uptoBulkAll r
def uptoBulkEntries {H : Type} : List (Lit × DataW H) → Nat
  | [] => 0
  | x :: r => uptoBulkEntry x + uptoBulkEntries r
def uptoBulkEntry {H : Type} : Lit × DataW H → Nat
  | (.string bytes, d) => bytes.length + uptoBulk d + 1
  | (_, d) => uptoBulk d + 1
 end
def uptoSmall : (H : Type) → List (DataW H) → Bool := fun _ ds => decide (uptoBulkAll ds ≤ 1048576)
def OpenSpec.upto (s : _root_.Go.ChangeSpec) : _root_.Go.OpenSpec := { _root_.Go.OpenSpec.ofChange s with cond := some uptoSmall }

/-- 'weighhouselaw.RestStates', WHERE WHAT IT READS IS OF BULK AT MOST 1048576: true; the input reads as it did. -/
def restStatesUptoRow : OpenClaim := { program := "ytfhfkijmebhgmaagreat", sum := "8ca7fe60ed1c40598bf144ee6ec97426faeaf005bc35aec01e21ab67f6513306", func := "weighhouse/weighhouselaw.RestStates", spec := "restStates", inPlace := ["slices.overlaps[weighhouse/api.Hold]"], unfollowed := true, recurses := true, apart := false, narrowed := true }
def RestStatesUptoSaid : Prop := restStatesUptoRow.holds Tryz.pinned (OpenSpec.upto restStatesSpec)

/-- 'weighhouselaw.CountCounts', WHERE WHAT IT READS IS OF BULK AT MOST 1048576: true; the input reads as it did. -/
def countCountsUptoRow : OpenClaim := { program := "ytfhfkijmebhgmaagreat", sum := "8ca7fe60ed1c40598bf144ee6ec97426faeaf005bc35aec01e21ab67f6513306", func := "weighhouse/weighhouselaw.CountCounts", spec := "countCounts", inPlace := ["slices.overlaps[weighhouse/api.Hold]"], unfollowed := true, recurses := true, apart := false, narrowed := true }
def CountCountsUptoSaid : Prop := countCountsUptoRow.holds Tryz.pinned (OpenSpec.upto countCountsSpec)

/-- 'weighhouselaw.CountTrue', WHERE WHAT IT READS IS OF BULK AT MOST 1048576: true; the input reads as it did. -/
def countTrueUptoRow : OpenClaim := { program := "ytfhfkijmebhgmaagreat", sum := "8ca7fe60ed1c40598bf144ee6ec97426faeaf005bc35aec01e21ab67f6513306", func := "weighhouse/weighhouselaw.CountTrue", spec := "countTrue", inPlace := ["slices.overlaps[weighhouse/api.Hold]"], unfollowed := true, recurses := true, apart := false, narrowed := true }
def CountTrueUptoSaid : Prop := countTrueUptoRow.holds Tryz.pinned (OpenSpec.upto countTrueSpec)

/-- 'weighhouselaw.CountMore', WHERE WHAT IT READS IS OF BULK AT MOST 1048576: true; the input reads as it did. -/
def countMoreUptoRow : OpenClaim := { program := "ytfhfkijmebhgmaagreat", sum := "8ca7fe60ed1c40598bf144ee6ec97426faeaf005bc35aec01e21ab67f6513306", func := "weighhouse/weighhouselaw.CountMore", spec := "countMore", inPlace := ["slices.overlaps[weighhouse/api.Hold]"], unfollowed := true, recurses := true, apart := false, narrowed := true }
def CountMoreUptoSaid : Prop := countMoreUptoRow.holds Tryz.pinned (OpenSpec.upto countMoreSpec)

/-- 'weighhouselaw.BookKept', WHERE WHAT IT READS IS OF BULK AT MOST 1048576: true; the input reads as it did. -/
def bookKeptUptoRow : OpenClaim := { program := "ytfhfkijmebhgmaagreat", sum := "8ca7fe60ed1c40598bf144ee6ec97426faeaf005bc35aec01e21ab67f6513306", func := "weighhouse/weighhouselaw.BookKept", spec := "bookKept", inPlace := ["slices.overlaps[weighhouse/api.Hold]"], unfollowed := true, recurses := true, apart := false, narrowed := true }
def BookKeptUptoSaid : Prop := bookKeptUptoRow.holds Tryz.pinned (OpenSpec.upto bookKeptSpec)

/-- 'weighhouselaw.LogDoes', WHERE WHAT IT READS IS OF BULK AT MOST 1048576: true; the input reads as it did. -/
def logDoesUptoRow : OpenClaim := { program := "ytfhfkijmebhgmaagreat", sum := "8ca7fe60ed1c40598bf144ee6ec97426faeaf005bc35aec01e21ab67f6513306", func := "weighhouse/weighhouselaw.LogDoes", spec := "logDoes", inPlace := ["slices.overlaps[weighhouse/api.Hold]"], unfollowed := true, recurses := true, apart := false, narrowed := true }
def LogDoesUptoSaid : Prop := logDoesUptoRow.holds Tryz.pinned (OpenSpec.upto logDoesSpec)

/-- 'weighhouselaw.LogReplays', WHERE WHAT IT READS IS OF BULK AT MOST 1048576: true; the input reads as it did. -/
def logReplaysUptoRow : OpenClaim := { program := "ytfhfkijmebhgmaagreat", sum := "8ca7fe60ed1c40598bf144ee6ec97426faeaf005bc35aec01e21ab67f6513306", func := "weighhouse/weighhouselaw.LogReplays", spec := "logReplays", inPlace := ["slices.overlaps[weighhouse/api.Hold]"], unfollowed := true, recurses := true, apart := false, narrowed := true }
def LogReplaysUptoSaid : Prop := logReplaysUptoRow.holds Tryz.pinned (OpenSpec.upto logReplaysSpec)

/-- 'weighhouselaw.LogRecovers', WHERE WHAT IT READS IS OF BULK AT MOST 1048576: true; the input reads as it did. -/
def logRecoversUptoRow : OpenClaim := { program := "ytfhfkijmebhgmaagreat", sum := "8ca7fe60ed1c40598bf144ee6ec97426faeaf005bc35aec01e21ab67f6513306", func := "weighhouse/weighhouselaw.LogRecovers", spec := "logRecovers", inPlace := ["slices.overlaps[weighhouse/api.Hold]"], unfollowed := true, recurses := true, apart := false, narrowed := true }
def LogRecoversUptoSaid : Prop := logRecoversUptoRow.holds Tryz.pinned (OpenSpec.upto logRecoversSpec)

/-- 'weighhouselaw.LogKept', WHERE WHAT IT READS IS OF BULK AT MOST 1048576: true; the input reads as it did. -/
def logKeptUptoRow : OpenClaim := { program := "ytfhfkijmebhgmaagreat", sum := "8ca7fe60ed1c40598bf144ee6ec97426faeaf005bc35aec01e21ab67f6513306", func := "weighhouse/weighhouselaw.LogKept", spec := "logKept", inPlace := ["slices.overlaps[weighhouse/api.Hold]"], unfollowed := true, recurses := true, apart := false, narrowed := true }
def LogKeptUptoSaid : Prop := logKeptUptoRow.holds Tryz.pinned (OpenSpec.upto logKeptSpec)

/-- 'weighhouselaw.LogMore', WHERE WHAT IT READS IS OF BULK AT MOST 1048576: true; the input reads as it did. -/
def logMoreUptoRow : OpenClaim := { program := "ytfhfkijmebhgmaagreat", sum := "8ca7fe60ed1c40598bf144ee6ec97426faeaf005bc35aec01e21ab67f6513306", func := "weighhouse/weighhouselaw.LogMore", spec := "logMore", inPlace := ["slices.overlaps[weighhouse/api.Hold]"], unfollowed := true, recurses := true, apart := false, narrowed := true }
def LogMoreUptoSaid : Prop := logMoreUptoRow.holds Tryz.pinned (OpenSpec.upto logMoreSpec)

/-- 'weighhouselaw.LogRight', WHERE WHAT IT READS IS OF BULK AT MOST 1048576: true; the input reads as it did. -/
def logRightUptoRow : OpenClaim := { program := "ytfhfkijmebhgmaagreat", sum := "8ca7fe60ed1c40598bf144ee6ec97426faeaf005bc35aec01e21ab67f6513306", func := "weighhouse/weighhouselaw.LogRight", spec := "logRight", inPlace := ["slices.overlaps[weighhouse/api.Hold]"], unfollowed := true, recurses := true, apart := false, narrowed := true }
def LogRightUptoSaid : Prop := logRightUptoRow.holds Tryz.pinned (OpenSpec.upto logRightSpec)

end Rows
end Go.Proofs.YtfhfkijmebhgmaaGreat
