/-
  No cell of these rows narrows 'for every input' (looked for: loops, veiled, ifaces, maps, wideKeys, modest, calm, conditions, laid).
  DERIVED. THE GIVEN ROWS OF THIS SEAT. 11 by the template 'for every input the law returns true; each argument reads behind the call as it read before'; 0 by the template 'total and deterministic' (their statements: YtnjgkhcnialplaaTotals.lean).
  GIVEN WITH THE SEED: the statements are not yours to turn. If you find one false, say at which input.
  Laid BY PROGRAM, IN A SANDBOX (cutbox-rows.mjs): the forced cells as the released guide's own fill.sh prints them over the translation 7fe3904647696670… (all of the seat's roots in one cut). By AI agents, Wed Nov 11 2026. No macro, syntax, notation, axiom, sorry.
-/
import Derived.Test.YtnjgkhcnialplaaChecked
import GoSem.Claim
import GoSem.ClaimJoined
import GoSem.ClaimMapViews
import Derived.JoinedTies
import Derived.KernelRfl
namespace Go.Proofs.Ytnjgkhcnialplaa
/- THE CELL 'sum', in the pinned program and in every row, IS THE sha256 OF THE DUMP (.gsa) THAT YtnjgkhcnialplaaProg.lean LOADS. Nothing in Lean hashes anything: it is a label: what it is worth is what the hold of that sum in a sandbox is worth. -/
noncomputable def Try.pinned : Pinned := { name := "ytnjgkhcnialplaa", sum := "7fe39046476966703926e88998705625f83657e72cb4c03460687cf527a0a0e9", checked := Try.checked }
namespace Rows
def none {H : Type} : Left H := { results := [], args := [] }

/-- 'weighhouselaw.BookTells': WHATEVER THE INPUT: true; the input reads as it did. -/
def bookTellsSpec : ChangeSpec := { name := "bookTells", fn := fun _ => fun
  | [d1, d2] => { results := [.lit (.bool true)], args := [d1, d2] }
  | _ => none }
def bookTellsRow : OpenClaim := { program := "ytnjgkhcnialplaa", sum := "7fe39046476966703926e88998705625f83657e72cb4c03460687cf527a0a0e9", func := "weighhouse/weighhouselaw.BookTells", spec := "bookTells", unfollowed := true, recurses := true, apart := false }
def BookTellsSaid : Prop := bookTellsRow.holds Try.pinned (OpenSpec.ofChange bookTellsSpec)

/-- ITS FALSE NEIGHBOUR: 'it returns false'. Refute it at one input. -/
def bookTellsWrong : ChangeSpec := { name := "bookTells", fn := fun _ => fun
  | [d1, d2] => { results := [.lit (.bool false)], args := [d1, d2] }
  | _ => none }
def BookTellsWrongFalsely : Prop := bookTellsRow.holds Try.pinned (OpenSpec.ofChange bookTellsWrong)

/-- 'weighhouselaw.StateChecks': WHATEVER THE INPUT: true; the input reads as it did. -/
def stateChecksSpec : ChangeSpec := { name := "stateChecks", fn := fun _ => fun
  | [d1, d2] => { results := [.lit (.bool true)], args := [d1, d2] }
  | _ => none }
def stateChecksRow : OpenClaim := { program := "ytnjgkhcnialplaa", sum := "7fe39046476966703926e88998705625f83657e72cb4c03460687cf527a0a0e9", func := "weighhouse/weighhouselaw.StateChecks", spec := "stateChecks", unfollowed := true, recurses := true, apart := false }
def StateChecksSaid : Prop := stateChecksRow.holds Try.pinned (OpenSpec.ofChange stateChecksSpec)

/-- ITS FALSE NEIGHBOUR: 'it returns false'. Refute it at one input. -/
def stateChecksWrong : ChangeSpec := { name := "stateChecks", fn := fun _ => fun
  | [d1, d2] => { results := [.lit (.bool false)], args := [d1, d2] }
  | _ => none }
def StateChecksWrongFalsely : Prop := stateChecksRow.holds Try.pinned (OpenSpec.ofChange stateChecksWrong)

/-- 'weighhouselaw.StateTells': WHATEVER THE INPUT: true; the input reads as it did. -/
def stateTellsSpec : ChangeSpec := { name := "stateTells", fn := fun _ => fun
  | [d1, d2, d3, d4] => { results := [.lit (.bool true)], args := [d1, d2, d3, d4] }
  | _ => none }
def stateTellsRow : OpenClaim := { program := "ytnjgkhcnialplaa", sum := "7fe39046476966703926e88998705625f83657e72cb4c03460687cf527a0a0e9", func := "weighhouse/weighhouselaw.StateTells", spec := "stateTells", unfollowed := true, recurses := true, apart := false }
def StateTellsSaid : Prop := stateTellsRow.holds Try.pinned (OpenSpec.ofChange stateTellsSpec)

/-- ITS FALSE NEIGHBOUR: 'it returns false'. Refute it at one input. -/
def stateTellsWrong : ChangeSpec := { name := "stateTells", fn := fun _ => fun
  | [d1, d2, d3, d4] => { results := [.lit (.bool false)], args := [d1, d2, d3, d4] }
  | _ => none }
def StateTellsWrongFalsely : Prop := stateTellsRow.holds Try.pinned (OpenSpec.ofChange stateTellsWrong)

/-- 'weighhouselaw.StateTrue': WHATEVER THE INPUT: true; the input reads as it did. -/
def stateTrueSpec : ChangeSpec := { name := "stateTrue", fn := fun _ => fun
  | [d1, d2, d3, d4] => { results := [.lit (.bool true)], args := [d1, d2, d3, d4] }
  | _ => none }
def stateTrueRow : OpenClaim := { program := "ytnjgkhcnialplaa", sum := "7fe39046476966703926e88998705625f83657e72cb4c03460687cf527a0a0e9", func := "weighhouse/weighhouselaw.StateTrue", spec := "stateTrue", unfollowed := true, recurses := true, apart := false }
def StateTrueSaid : Prop := stateTrueRow.holds Try.pinned (OpenSpec.ofChange stateTrueSpec)

/-- ITS FALSE NEIGHBOUR: 'it returns false'. Refute it at one input. -/
def stateTrueWrong : ChangeSpec := { name := "stateTrue", fn := fun _ => fun
  | [d1, d2, d3, d4] => { results := [.lit (.bool false)], args := [d1, d2, d3, d4] }
  | _ => none }
def StateTrueWrongFalsely : Prop := stateTrueRow.holds Try.pinned (OpenSpec.ofChange stateTrueWrong)

/-- 'weighhouselaw.StateBegin': WHATEVER THE INPUT: true; the input reads as it did. -/
def stateBeginSpec : ChangeSpec := { name := "stateBegin", fn := fun _ => fun
  | [d1, d2, d3] => { results := [.lit (.bool true)], args := [d1, d2, d3] }
  | _ => none }
def stateBeginRow : OpenClaim := { program := "ytnjgkhcnialplaa", sum := "7fe39046476966703926e88998705625f83657e72cb4c03460687cf527a0a0e9", func := "weighhouse/weighhouselaw.StateBegin", spec := "stateBegin", unfollowed := true, recurses := true, apart := false }
def StateBeginSaid : Prop := stateBeginRow.holds Try.pinned (OpenSpec.ofChange stateBeginSpec)

/-- ITS FALSE NEIGHBOUR: 'it returns false'. Refute it at one input. -/
def stateBeginWrong : ChangeSpec := { name := "stateBegin", fn := fun _ => fun
  | [d1, d2, d3] => { results := [.lit (.bool false)], args := [d1, d2, d3] }
  | _ => none }
def StateBeginWrongFalsely : Prop := stateBeginRow.holds Try.pinned (OpenSpec.ofChange stateBeginWrong)

/-- 'weighhouselaw.RecvReceives': WHATEVER THE INPUT: true; the input reads as it did. -/
def recvReceivesSpec : ChangeSpec := { name := "recvReceives", fn := fun _ => fun
  | [d1, d2, d3, d4, d5] => { results := [.lit (.bool true)], args := [d1, d2, d3, d4, d5] }
  | _ => none }
def recvReceivesRow : OpenClaim := { program := "ytnjgkhcnialplaa", sum := "7fe39046476966703926e88998705625f83657e72cb4c03460687cf527a0a0e9", func := "weighhouse/weighhouselaw.RecvReceives", spec := "recvReceives", unfollowed := true, recurses := true, apart := false }
def RecvReceivesSaid : Prop := recvReceivesRow.holds Try.pinned (OpenSpec.ofChange recvReceivesSpec)

/-- ITS FALSE NEIGHBOUR: 'it returns false'. Refute it at one input. -/
def recvReceivesWrong : ChangeSpec := { name := "recvReceives", fn := fun _ => fun
  | [d1, d2, d3, d4, d5] => { results := [.lit (.bool false)], args := [d1, d2, d3, d4, d5] }
  | _ => none }
def RecvReceivesWrongFalsely : Prop := recvReceivesRow.holds Try.pinned (OpenSpec.ofChange recvReceivesWrong)

/-- 'weighhouselaw.RecvEnters': WHATEVER THE INPUT: true; the input reads as it did. -/
def recvEntersSpec : ChangeSpec := { name := "recvEnters", fn := fun _ => fun
  | [d1, d2, d3] => { results := [.lit (.bool true)], args := [d1, d2, d3] }
  | _ => none }
def recvEntersRow : OpenClaim := { program := "ytnjgkhcnialplaa", sum := "7fe39046476966703926e88998705625f83657e72cb4c03460687cf527a0a0e9", func := "weighhouse/weighhouselaw.RecvEnters", spec := "recvEnters", unfollowed := true, recurses := true, apart := false }
def RecvEntersSaid : Prop := recvEntersRow.holds Try.pinned (OpenSpec.ofChange recvEntersSpec)

/-- ITS FALSE NEIGHBOUR: 'it returns false'. Refute it at one input. -/
def recvEntersWrong : ChangeSpec := { name := "recvEnters", fn := fun _ => fun
  | [d1, d2, d3] => { results := [.lit (.bool false)], args := [d1, d2, d3] }
  | _ => none }
def RecvEntersWrongFalsely : Prop := recvEntersRow.holds Try.pinned (OpenSpec.ofChange recvEntersWrong)

/-- 'weighhouselaw.RecvTrue': WHATEVER THE INPUT: true; the input reads as it did. -/
def recvTrueSpec : ChangeSpec := { name := "recvTrue", fn := fun _ => fun
  | [d1, d2, d3, d4, d5, d6] => { results := [.lit (.bool true)], args := [d1, d2, d3, d4, d5, d6] }
  | _ => none }
def recvTrueRow : OpenClaim := { program := "ytnjgkhcnialplaa", sum := "7fe39046476966703926e88998705625f83657e72cb4c03460687cf527a0a0e9", func := "weighhouse/weighhouselaw.RecvTrue", spec := "recvTrue", unfollowed := true, recurses := true, apart := false }
def RecvTrueSaid : Prop := recvTrueRow.holds Try.pinned (OpenSpec.ofChange recvTrueSpec)

/-- ITS FALSE NEIGHBOUR: 'it returns false'. Refute it at one input. -/
def recvTrueWrong : ChangeSpec := { name := "recvTrue", fn := fun _ => fun
  | [d1, d2, d3, d4, d5, d6] => { results := [.lit (.bool false)], args := [d1, d2, d3, d4, d5, d6] }
  | _ => none }
def RecvTrueWrongFalsely : Prop := recvTrueRow.holds Try.pinned (OpenSpec.ofChange recvTrueWrong)

/-- 'weighhouselaw.AllocTakes': WHATEVER THE INPUT: true; the input reads as it did. -/
def allocTakesSpec : ChangeSpec := { name := "allocTakes", fn := fun _ => fun
  | [d1, d2, d3, d4, d5, d6] => { results := [.lit (.bool true)], args := [d1, d2, d3, d4, d5, d6] }
  | _ => none }
def allocTakesRow : OpenClaim := { program := "ytnjgkhcnialplaa", sum := "7fe39046476966703926e88998705625f83657e72cb4c03460687cf527a0a0e9", func := "weighhouse/weighhouselaw.AllocTakes", spec := "allocTakes", inPlace := ["slices.overlaps[weighhouse/api.Hold]"], unfollowed := true, recurses := true, apart := false }
def AllocTakesSaid : Prop := allocTakesRow.holds Try.pinned (OpenSpec.ofChange allocTakesSpec)

/-- ITS FALSE NEIGHBOUR: 'it returns false'. Refute it at one input. -/
def allocTakesWrong : ChangeSpec := { name := "allocTakes", fn := fun _ => fun
  | [d1, d2, d3, d4, d5, d6] => { results := [.lit (.bool false)], args := [d1, d2, d3, d4, d5, d6] }
  | _ => none }
def AllocTakesWrongFalsely : Prop := allocTakesRow.holds Try.pinned (OpenSpec.ofChange allocTakesWrong)

/-- 'weighhouselaw.AllocTrue': WHATEVER THE INPUT: true; the input reads as it did. -/
def allocTrueSpec : ChangeSpec := { name := "allocTrue", fn := fun _ => fun
  | [d1, d2, d3, d4, d5, d6, d7] => { results := [.lit (.bool true)], args := [d1, d2, d3, d4, d5, d6, d7] }
  | _ => none }
def allocTrueRow : OpenClaim := { program := "ytnjgkhcnialplaa", sum := "7fe39046476966703926e88998705625f83657e72cb4c03460687cf527a0a0e9", func := "weighhouse/weighhouselaw.AllocTrue", spec := "allocTrue", inPlace := ["slices.overlaps[weighhouse/api.Hold]"], unfollowed := true, recurses := true, apart := false }
def AllocTrueSaid : Prop := allocTrueRow.holds Try.pinned (OpenSpec.ofChange allocTrueSpec)

/-- ITS FALSE NEIGHBOUR: 'it returns false'. Refute it at one input. -/
def allocTrueWrong : ChangeSpec := { name := "allocTrue", fn := fun _ => fun
  | [d1, d2, d3, d4, d5, d6, d7] => { results := [.lit (.bool false)], args := [d1, d2, d3, d4, d5, d6, d7] }
  | _ => none }
def AllocTrueWrongFalsely : Prop := allocTrueRow.holds Try.pinned (OpenSpec.ofChange allocTrueWrong)

/-- 'weighhouselaw.AllocFront': WHATEVER THE INPUT: true; the input reads as it did. -/
def allocFrontSpec : ChangeSpec := { name := "allocFront", fn := fun _ => fun
  | [d1, d2, d3, d4, d5] => { results := [.lit (.bool true)], args := [d1, d2, d3, d4, d5] }
  | _ => none }
def allocFrontRow : OpenClaim := { program := "ytnjgkhcnialplaa", sum := "7fe39046476966703926e88998705625f83657e72cb4c03460687cf527a0a0e9", func := "weighhouse/weighhouselaw.AllocFront", spec := "allocFront", inPlace := ["slices.overlaps[weighhouse/api.Hold]"], unfollowed := true, recurses := true, apart := false }
def AllocFrontSaid : Prop := allocFrontRow.holds Try.pinned (OpenSpec.ofChange allocFrontSpec)

/-- ITS FALSE NEIGHBOUR: 'it returns false'. Refute it at one input. -/
def allocFrontWrong : ChangeSpec := { name := "allocFront", fn := fun _ => fun
  | [d1, d2, d3, d4, d5] => { results := [.lit (.bool false)], args := [d1, d2, d3, d4, d5] }
  | _ => none }
def AllocFrontWrongFalsely : Prop := allocFrontRow.holds Try.pinned (OpenSpec.ofChange allocFrontWrong)

/- THE SECOND FORM. 'bulk': how many values and letters a reading holds, each counted each time it is reached (what is shared counts as often as it is met; a slice's spare places count too). A statement '..UptoSaid' is the law's where the arguments, and the package variables that the reading takes, are together of bulk at most 1048576: NARROWER than '..Said'. Prove '..Said' where nothing that the law and all that it calls make is longer than what came in: it says more and counts as full. Else prove '..UptoSaid'. A law counts once. -/
mutual
def uptoBulk {H : Type} : DataW H → Nat
  | .lit (.string bytes) => bytes.length + 1
  | .lit _ => 1
  | .nil => 1
  | .ptr d => uptoBulk d + 1
  | .slice elems spare => uptoBulkAll elems + uptoBulkAll spare + 1
  | .agg parts => uptoBulkAll parts + 1
  | .iface _ d => uptoBulk d + 1
  | .map entries => uptoBulkEntries entries + 1
  | .held _ => 1
def uptoBulkAll {H : Type} : List (DataW H) → Nat
  | [] => 0
  | d :: r => uptoBulk d + uptoBulkAll r
def uptoBulkEntries {H : Type} : List (Lit × DataW H) → Nat
  | [] => 0
  | x :: r => uptoBulkEntry x + uptoBulkEntries r
def uptoBulkEntry {H : Type} : Lit × DataW H → Nat
  | (.string bytes, d) => bytes.length + uptoBulk d + 1
  | (_, d) => uptoBulk d + 1
 end
def uptoSmall : (H : Type) → List (DataW H) → Bool := fun _ ds => decide (uptoBulkAll ds ≤ 1048576)
def OpenSpec.upto (s : _root_.Go.ChangeSpec) : _root_.Go.OpenSpec := { _root_.Go.OpenSpec.ofChange s with cond := some uptoSmall }

/-- 'weighhouselaw.BookTells', WHERE WHAT IT READS IS OF BULK AT MOST 1048576: true; the input reads as it did. -/
def bookTellsUptoRow : OpenClaim := { program := "ytnjgkhcnialplaa", sum := "7fe39046476966703926e88998705625f83657e72cb4c03460687cf527a0a0e9", func := "weighhouse/weighhouselaw.BookTells", spec := "bookTells", unfollowed := true, recurses := true, apart := false, narrowed := true }
def BookTellsUptoSaid : Prop := bookTellsUptoRow.holds Try.pinned (OpenSpec.upto bookTellsSpec)

/-- 'weighhouselaw.StateChecks', WHERE WHAT IT READS IS OF BULK AT MOST 1048576: true; the input reads as it did. -/
def stateChecksUptoRow : OpenClaim := { program := "ytnjgkhcnialplaa", sum := "7fe39046476966703926e88998705625f83657e72cb4c03460687cf527a0a0e9", func := "weighhouse/weighhouselaw.StateChecks", spec := "stateChecks", unfollowed := true, recurses := true, apart := false, narrowed := true }
def StateChecksUptoSaid : Prop := stateChecksUptoRow.holds Try.pinned (OpenSpec.upto stateChecksSpec)

/-- 'weighhouselaw.StateTells', WHERE WHAT IT READS IS OF BULK AT MOST 1048576: true; the input reads as it did. -/
def stateTellsUptoRow : OpenClaim := { program := "ytnjgkhcnialplaa", sum := "7fe39046476966703926e88998705625f83657e72cb4c03460687cf527a0a0e9", func := "weighhouse/weighhouselaw.StateTells", spec := "stateTells", unfollowed := true, recurses := true, apart := false, narrowed := true }
def StateTellsUptoSaid : Prop := stateTellsUptoRow.holds Try.pinned (OpenSpec.upto stateTellsSpec)

/-- 'weighhouselaw.StateTrue', WHERE WHAT IT READS IS OF BULK AT MOST 1048576: true; the input reads as it did. -/
def stateTrueUptoRow : OpenClaim := { program := "ytnjgkhcnialplaa", sum := "7fe39046476966703926e88998705625f83657e72cb4c03460687cf527a0a0e9", func := "weighhouse/weighhouselaw.StateTrue", spec := "stateTrue", unfollowed := true, recurses := true, apart := false, narrowed := true }
def StateTrueUptoSaid : Prop := stateTrueUptoRow.holds Try.pinned (OpenSpec.upto stateTrueSpec)

/-- 'weighhouselaw.StateBegin', WHERE WHAT IT READS IS OF BULK AT MOST 1048576: true; the input reads as it did. -/
def stateBeginUptoRow : OpenClaim := { program := "ytnjgkhcnialplaa", sum := "7fe39046476966703926e88998705625f83657e72cb4c03460687cf527a0a0e9", func := "weighhouse/weighhouselaw.StateBegin", spec := "stateBegin", unfollowed := true, recurses := true, apart := false, narrowed := true }
def StateBeginUptoSaid : Prop := stateBeginUptoRow.holds Try.pinned (OpenSpec.upto stateBeginSpec)

/-- 'weighhouselaw.RecvReceives', WHERE WHAT IT READS IS OF BULK AT MOST 1048576: true; the input reads as it did. -/
def recvReceivesUptoRow : OpenClaim := { program := "ytnjgkhcnialplaa", sum := "7fe39046476966703926e88998705625f83657e72cb4c03460687cf527a0a0e9", func := "weighhouse/weighhouselaw.RecvReceives", spec := "recvReceives", unfollowed := true, recurses := true, apart := false, narrowed := true }
def RecvReceivesUptoSaid : Prop := recvReceivesUptoRow.holds Try.pinned (OpenSpec.upto recvReceivesSpec)

/-- 'weighhouselaw.RecvEnters', WHERE WHAT IT READS IS OF BULK AT MOST 1048576: true; the input reads as it did. -/
def recvEntersUptoRow : OpenClaim := { program := "ytnjgkhcnialplaa", sum := "7fe39046476966703926e88998705625f83657e72cb4c03460687cf527a0a0e9", func := "weighhouse/weighhouselaw.RecvEnters", spec := "recvEnters", unfollowed := true, recurses := true, apart := false, narrowed := true }
def RecvEntersUptoSaid : Prop := recvEntersUptoRow.holds Try.pinned (OpenSpec.upto recvEntersSpec)

/-- 'weighhouselaw.RecvTrue', WHERE WHAT IT READS IS OF BULK AT MOST 1048576: true; the input reads as it did. -/
def recvTrueUptoRow : OpenClaim := { program := "ytnjgkhcnialplaa", sum := "7fe39046476966703926e88998705625f83657e72cb4c03460687cf527a0a0e9", func := "weighhouse/weighhouselaw.RecvTrue", spec := "recvTrue", unfollowed := true, recurses := true, apart := false, narrowed := true }
def RecvTrueUptoSaid : Prop := recvTrueUptoRow.holds Try.pinned (OpenSpec.upto recvTrueSpec)

/-- 'weighhouselaw.AllocTakes', WHERE WHAT IT READS IS OF BULK AT MOST 1048576: true; the input reads as it did. -/
def allocTakesUptoRow : OpenClaim := { program := "ytnjgkhcnialplaa", sum := "7fe39046476966703926e88998705625f83657e72cb4c03460687cf527a0a0e9", func := "weighhouse/weighhouselaw.AllocTakes", spec := "allocTakes", inPlace := ["slices.overlaps[weighhouse/api.Hold]"], unfollowed := true, recurses := true, apart := false, narrowed := true }
def AllocTakesUptoSaid : Prop := allocTakesUptoRow.holds Try.pinned (OpenSpec.upto allocTakesSpec)

/-- 'weighhouselaw.AllocTrue', WHERE WHAT IT READS IS OF BULK AT MOST 1048576: true; the input reads as it did. -/
def allocTrueUptoRow : OpenClaim := { program := "ytnjgkhcnialplaa", sum := "7fe39046476966703926e88998705625f83657e72cb4c03460687cf527a0a0e9", func := "weighhouse/weighhouselaw.AllocTrue", spec := "allocTrue", inPlace := ["slices.overlaps[weighhouse/api.Hold]"], unfollowed := true, recurses := true, apart := false, narrowed := true }
def AllocTrueUptoSaid : Prop := allocTrueUptoRow.holds Try.pinned (OpenSpec.upto allocTrueSpec)

/-- 'weighhouselaw.AllocFront', WHERE WHAT IT READS IS OF BULK AT MOST 1048576: true; the input reads as it did. -/
def allocFrontUptoRow : OpenClaim := { program := "ytnjgkhcnialplaa", sum := "7fe39046476966703926e88998705625f83657e72cb4c03460687cf527a0a0e9", func := "weighhouse/weighhouselaw.AllocFront", spec := "allocFront", inPlace := ["slices.overlaps[weighhouse/api.Hold]"], unfollowed := true, recurses := true, apart := false, narrowed := true }
def AllocFrontUptoSaid : Prop := allocFrontUptoRow.holds Try.pinned (OpenSpec.upto allocFrontSpec)

end Rows
end Go.Proofs.Ytnjgkhcnialplaa
