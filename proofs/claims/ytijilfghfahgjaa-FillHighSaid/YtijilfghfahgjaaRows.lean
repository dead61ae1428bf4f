/-
  No cell of these rows narrows 'for every input' (looked for: loops, veiled, ifaces, maps, wideKeys, modest, calm, conditions, laid).
  DERIVED. THE GIVEN ROWS OF THIS SEAT. 10 by the template 'for every input the law returns true; each argument reads behind the call as it read before'; 0 by the template 'total and deterministic' (their statements: YtijilfghfahgjaaTotals.lean).
  GIVEN WITH THE SEED: the statements are not yours to turn. If you find one false, say at which input.
  Laid BY PROGRAM, IN A SANDBOX (cutbox-rows.mjs): the forced cells as the released guide's own fill.sh prints them over the translation d316172022af9347… (all of the seat's roots in one cut). By AI agents, Wed Nov 11 2026. No macro, syntax, notation, axiom, sorry.
-/
import Derived.Test.YtijilfghfahgjaaChecked
import GoSem.Claim
import GoSem.ClaimJoined
import GoSem.ClaimMapViews
import Derived.JoinedTies
import Derived.KernelRfl
namespace Go.Proofs.Ytijilfghfahgjaa
/- THE CELL 'sum', in the pinned program and in every row, IS THE sha256 OF THE DUMP (.gsa) THAT YtijilfghfahgjaaProg.lean LOADS. Nothing in Lean hashes anything: it is a label: what it is worth is what the hold of that sum in a sandbox is worth. -/
noncomputable def Try.pinned : Pinned := { name := "ytijilfghfahgjaa", sum := "d316172022af9347dd9ab3315eba4df2258c79a6310f0e2cce14a11ba0290559", checked := Try.checked }
namespace Rows
def none {H : Type} : Left H := { results := [], args := [] }

/-- 'weighhouselaw.FillTells': WHATEVER THE INPUT: true; the input reads as it did. -/
def fillTellsSpec : ChangeSpec := { name := "fillTells", fn := fun _ => fun
  | [d1, d2, d3, d4] => { results := [.lit (.bool true)], args := [d1, d2, d3, d4] }
  | _ => none }
def fillTellsRow : OpenClaim := { program := "ytijilfghfahgjaa", sum := "d316172022af9347dd9ab3315eba4df2258c79a6310f0e2cce14a11ba0290559", func := "weighhouse/weighhouselaw.FillTells", spec := "fillTells", unfollowed := true, recurses := true, apart := false }
def FillTellsSaid : Prop := fillTellsRow.holds Try.pinned (OpenSpec.ofChange fillTellsSpec)

/-- ITS FALSE NEIGHBOUR: 'it returns false'. Refute it at one input. -/
def fillTellsWrong : ChangeSpec := { name := "fillTells", fn := fun _ => fun
  | [d1, d2, d3, d4] => { results := [.lit (.bool false)], args := [d1, d2, d3, d4] }
  | _ => none }
def FillTellsWrongFalsely : Prop := fillTellsRow.holds Try.pinned (OpenSpec.ofChange fillTellsWrong)

/-- 'weighhouselaw.FillHigh': WHATEVER THE INPUT: true; the input reads as it did. -/
def fillHighSpec : ChangeSpec := { name := "fillHigh", fn := fun _ => fun
  | [d1, d2] => { results := [.lit (.bool true)], args := [d1, d2] }
  | _ => none }
def fillHighRow : OpenClaim := { program := "ytijilfghfahgjaa", sum := "d316172022af9347dd9ab3315eba4df2258c79a6310f0e2cce14a11ba0290559", func := "weighhouse/weighhouselaw.FillHigh", spec := "fillHigh", unfollowed := true, recurses := true, apart := false }
def FillHighSaid : Prop := fillHighRow.holds Try.pinned (OpenSpec.ofChange fillHighSpec)

/-- ITS FALSE NEIGHBOUR: 'it returns false'. Refute it at one input. -/
def fillHighWrong : ChangeSpec := { name := "fillHigh", fn := fun _ => fun
  | [d1, d2] => { results := [.lit (.bool false)], args := [d1, d2] }
  | _ => none }
def FillHighWrongFalsely : Prop := fillHighRow.holds Try.pinned (OpenSpec.ofChange fillHighWrong)

/-- 'weighhouselaw.FillTrue': WHATEVER THE INPUT: true; the input reads as it did. -/
def fillTrueSpec : ChangeSpec := { name := "fillTrue", fn := fun _ => fun
  | [d1, d2, d3, d4, d5] => { results := [.lit (.bool true)], args := [d1, d2, d3, d4, d5] }
  | _ => none }
def fillTrueRow : OpenClaim := { program := "ytijilfghfahgjaa", sum := "d316172022af9347dd9ab3315eba4df2258c79a6310f0e2cce14a11ba0290559", func := "weighhouse/weighhouselaw.FillTrue", spec := "fillTrue", unfollowed := true, recurses := true, apart := false }
def FillTrueSaid : Prop := fillTrueRow.holds Try.pinned (OpenSpec.ofChange fillTrueSpec)

/-- ITS FALSE NEIGHBOUR: 'it returns false'. Refute it at one input. -/
def fillTrueWrong : ChangeSpec := { name := "fillTrue", fn := fun _ => fun
  | [d1, d2, d3, d4, d5] => { results := [.lit (.bool false)], args := [d1, d2, d3, d4, d5] }
  | _ => none }
def FillTrueWrongFalsely : Prop := fillTrueRow.holds Try.pinned (OpenSpec.ofChange fillTrueWrong)

/-- 'weighhouselaw.PickPicks': WHATEVER THE INPUT: true; the input reads as it did. -/
def pickPicksSpec : ChangeSpec := { name := "pickPicks", fn := fun _ => fun
  | [d1, d2, d3, d4, d5, d6] => { results := [.lit (.bool true)], args := [d1, d2, d3, d4, d5, d6] }
  | _ => none }
def pickPicksRow : OpenClaim := { program := "ytijilfghfahgjaa", sum := "d316172022af9347dd9ab3315eba4df2258c79a6310f0e2cce14a11ba0290559", func := "weighhouse/weighhouselaw.PickPicks", spec := "pickPicks", inPlace := ["slices.overlaps[weighhouse/api.Hold]"], unfollowed := true, recurses := true, apart := false }
def PickPicksSaid : Prop := pickPicksRow.holds Try.pinned (OpenSpec.ofChange pickPicksSpec)

/-- ITS FALSE NEIGHBOUR: 'it returns false'. Refute it at one input. -/
def pickPicksWrong : ChangeSpec := { name := "pickPicks", fn := fun _ => fun
  | [d1, d2, d3, d4, d5, d6] => { results := [.lit (.bool false)], args := [d1, d2, d3, d4, d5, d6] }
  | _ => none }
def PickPicksWrongFalsely : Prop := pickPicksRow.holds Try.pinned (OpenSpec.ofChange pickPicksWrong)

/-- 'weighhouselaw.PickTrue': WHATEVER THE INPUT: true; the input reads as it did. -/
def pickTrueSpec : ChangeSpec := { name := "pickTrue", fn := fun _ => fun
  | [d1, d2, d3, d4, d5, d6] => { results := [.lit (.bool true)], args := [d1, d2, d3, d4, d5, d6] }
  | _ => none }
def pickTrueRow : OpenClaim := { program := "ytijilfghfahgjaa", sum := "d316172022af9347dd9ab3315eba4df2258c79a6310f0e2cce14a11ba0290559", func := "weighhouse/weighhouselaw.PickTrue", spec := "pickTrue", inPlace := ["slices.overlaps[weighhouse/api.Hold]"], unfollowed := true, recurses := true, apart := false }
def PickTrueSaid : Prop := pickTrueRow.holds Try.pinned (OpenSpec.ofChange pickTrueSpec)

/-- ITS FALSE NEIGHBOUR: 'it returns false'. Refute it at one input. -/
def pickTrueWrong : ChangeSpec := { name := "pickTrue", fn := fun _ => fun
  | [d1, d2, d3, d4, d5, d6] => { results := [.lit (.bool false)], args := [d1, d2, d3, d4, d5, d6] }
  | _ => none }
def PickTrueWrongFalsely : Prop := pickTrueRow.holds Try.pinned (OpenSpec.ofChange pickTrueWrong)

/-- 'weighhouselaw.WaveTells': WHATEVER THE INPUT: true; the input reads as it did. -/
def waveTellsSpec : ChangeSpec := { name := "waveTells", fn := fun _ => fun
  | [d1, d2, d3] => { results := [.lit (.bool true)], args := [d1, d2, d3] }
  | _ => none }
def waveTellsRow : OpenClaim := { program := "ytijilfghfahgjaa", sum := "d316172022af9347dd9ab3315eba4df2258c79a6310f0e2cce14a11ba0290559", func := "weighhouse/weighhouselaw.WaveTells", spec := "waveTells", inPlace := ["slices.overlaps[weighhouse/api.Hold]"], unfollowed := true, recurses := true, apart := false }
def WaveTellsSaid : Prop := waveTellsRow.holds Try.pinned (OpenSpec.ofChange waveTellsSpec)

/-- ITS FALSE NEIGHBOUR: 'it returns false'. Refute it at one input. -/
def waveTellsWrong : ChangeSpec := { name := "waveTells", fn := fun _ => fun
  | [d1, d2, d3] => { results := [.lit (.bool false)], args := [d1, d2, d3] }
  | _ => none }
def WaveTellsWrongFalsely : Prop := waveTellsRow.holds Try.pinned (OpenSpec.ofChange waveTellsWrong)

/-- 'weighhouselaw.WaveFirst': WHATEVER THE INPUT: true; the input reads as it did. -/
def waveFirstSpec : ChangeSpec := { name := "waveFirst", fn := fun _ => fun
  | [d1, d2, d3, d4, d5, d6] => { results := [.lit (.bool true)], args := [d1, d2, d3, d4, d5, d6] }
  | _ => none }
def waveFirstRow : OpenClaim := { program := "ytijilfghfahgjaa", sum := "d316172022af9347dd9ab3315eba4df2258c79a6310f0e2cce14a11ba0290559", func := "weighhouse/weighhouselaw.WaveFirst", spec := "waveFirst", inPlace := ["slices.overlaps[weighhouse/api.Hold]"], unfollowed := true, recurses := true, apart := false }
def WaveFirstSaid : Prop := waveFirstRow.holds Try.pinned (OpenSpec.ofChange waveFirstSpec)

/-- ITS FALSE NEIGHBOUR: 'it returns false'. Refute it at one input. -/
def waveFirstWrong : ChangeSpec := { name := "waveFirst", fn := fun _ => fun
  | [d1, d2, d3, d4, d5, d6] => { results := [.lit (.bool false)], args := [d1, d2, d3, d4, d5, d6] }
  | _ => none }
def WaveFirstWrongFalsely : Prop := waveFirstRow.holds Try.pinned (OpenSpec.ofChange waveFirstWrong)

/-- 'weighhouselaw.PickShort': WHATEVER THE INPUT: true; the input reads as it did. -/
def pickShortSpec : ChangeSpec := { name := "pickShort", fn := fun _ => fun
  | [d1, d2, d3, d4, d5, d6] => { results := [.lit (.bool true)], args := [d1, d2, d3, d4, d5, d6] }
  | _ => none }
def pickShortRow : OpenClaim := { program := "ytijilfghfahgjaa", sum := "d316172022af9347dd9ab3315eba4df2258c79a6310f0e2cce14a11ba0290559", func := "weighhouse/weighhouselaw.PickShort", spec := "pickShort", inPlace := ["slices.overlaps[weighhouse/api.Hold]"], unfollowed := true, recurses := true, apart := false }
def PickShortSaid : Prop := pickShortRow.holds Try.pinned (OpenSpec.ofChange pickShortSpec)

/-- ITS FALSE NEIGHBOUR: 'it returns false'. Refute it at one input. -/
def pickShortWrong : ChangeSpec := { name := "pickShort", fn := fun _ => fun
  | [d1, d2, d3, d4, d5, d6] => { results := [.lit (.bool false)], args := [d1, d2, d3, d4, d5, d6] }
  | _ => none }
def PickShortWrongFalsely : Prop := pickShortRow.holds Try.pinned (OpenSpec.ofChange pickShortWrong)

/-- 'weighhouselaw.WaveTrue': WHATEVER THE INPUT: true; the input reads as it did. -/
def waveTrueSpec : ChangeSpec := { name := "waveTrue", fn := fun _ => fun
  | [d1, d2, d3, d4] => { results := [.lit (.bool true)], args := [d1, d2, d3, d4] }
  | _ => none }
def waveTrueRow : OpenClaim := { program := "ytijilfghfahgjaa", sum := "d316172022af9347dd9ab3315eba4df2258c79a6310f0e2cce14a11ba0290559", func := "weighhouse/weighhouselaw.WaveTrue", spec := "waveTrue", inPlace := ["slices.overlaps[weighhouse/api.Hold]"], unfollowed := true, recurses := true, apart := false }
def WaveTrueSaid : Prop := waveTrueRow.holds Try.pinned (OpenSpec.ofChange waveTrueSpec)

/-- ITS FALSE NEIGHBOUR: 'it returns false'. Refute it at one input. -/
def waveTrueWrong : ChangeSpec := { name := "waveTrue", fn := fun _ => fun
  | [d1, d2, d3, d4] => { results := [.lit (.bool false)], args := [d1, d2, d3, d4] }
  | _ => none }
def WaveTrueWrongFalsely : Prop := waveTrueRow.holds Try.pinned (OpenSpec.ofChange waveTrueWrong)

/-- 'weighhouselaw.BookDone': WHATEVER THE INPUT: true; the input reads as it did. -/
def bookDoneSpec : ChangeSpec := { name := "bookDone", fn := fun _ => fun
  | [d1, d2] => { results := [.lit (.bool true)], args := [d1, d2] }
  | _ => none }
def bookDoneRow : OpenClaim := { program := "ytijilfghfahgjaa", sum := "d316172022af9347dd9ab3315eba4df2258c79a6310f0e2cce14a11ba0290559", func := "weighhouse/weighhouselaw.BookDone", spec := "bookDone", inPlace := ["slices.overlaps[weighhouse/api.Hold]"], unfollowed := true, recurses := true, apart := false }
def BookDoneSaid : Prop := bookDoneRow.holds Try.pinned (OpenSpec.ofChange bookDoneSpec)

/-- ITS FALSE NEIGHBOUR: 'it returns false'. Refute it at one input. -/
def bookDoneWrong : ChangeSpec := { name := "bookDone", fn := fun _ => fun
  | [d1, d2] => { results := [.lit (.bool false)], args := [d1, d2] }
  | _ => none }
def BookDoneWrongFalsely : Prop := bookDoneRow.holds Try.pinned (OpenSpec.ofChange bookDoneWrong)

/- THE SECOND FORM. 'bulk': how many values and letters a reading holds, each counted each time it is reached (what is shared counts as often as it is met; a slice's spare places count too). A statement '..UptoSaid' is the law's where the arguments, and the package variables that the reading takes, are together of bulk at most 1048576: NARROWER than '..Said'. Prove '..Said' where nothing that the law and all that it calls make is longer than what came in: it says more and counts as full. Else prove '..UptoSaid'. A law counts once. -/
mutual
def uptoBulk {H : Type} : DataW H → Nat
  | .lit (.string bytes) => bytes.length + 1
  | .lit _ => 1
  | .nil => 1
  | .ptr d => uptoBulk d + 1
  | .slice elems spare => uptoBulkAll elems + uptoBulkAll spare + 1
  | .agg parts => uptoBulkAll parts + 1
  | .iface _ d => uptoBulk d + 1
  | .map entries => uptoBulkEntries entries + 1
  | .held _ => 1
def uptoBulkAll {H : Type} : List (DataW H) → Nat
  | [] => 0
  | d :: r => uptoBulk d + uptoBulkAll r
def uptoBulkEntries {H : Type} : List (Lit × DataW H) → Nat
  | [] => 0
  | x :: r => uptoBulkEntry x + uptoBulkEntries r
def uptoBulkEntry {H : Type} : Lit × DataW H → Nat
  | (.string bytes, d) => bytes.length + uptoBulk d + 1
  | (_, d) => uptoBulk d + 1
 end
def uptoSmall : (H : Type) → List (DataW H) → Bool := fun _ ds => decide (uptoBulkAll ds ≤ 1048576)
def OpenSpec.upto (s : _root_.Go.ChangeSpec) : _root_.Go.OpenSpec := { _root_.Go.OpenSpec.ofChange s with cond := some uptoSmall }

/-- 'weighhouselaw.FillTells', WHERE WHAT IT READS IS OF BULK AT MOST 1048576: true; the input reads as it did. -/
def fillTellsUptoRow : OpenClaim := { program := "ytijilfghfahgjaa", sum := "d316172022af9347dd9ab3315eba4df2258c79a6310f0e2cce14a11ba0290559", func := "weighhouse/weighhouselaw.FillTells", spec := "fillTells", unfollowed := true, recurses := true, apart := false, narrowed := true }
def FillTellsUptoSaid : Prop := fillTellsUptoRow.holds Try.pinned (OpenSpec.upto fillTellsSpec)

/-- 'weighhouselaw.FillHigh', WHERE WHAT IT READS IS OF BULK AT MOST 1048576: true; the input reads as it did. -/
def fillHighUptoRow : OpenClaim := { program := "ytijilfghfahgjaa", sum := "d316172022af9347dd9ab3315eba4df2258c79a6310f0e2cce14a11ba0290559", func := "weighhouse/weighhouselaw.FillHigh", spec := "fillHigh", unfollowed := true, recurses := true, apart := false, narrowed := true }
def FillHighUptoSaid : Prop := fillHighUptoRow.holds Try.pinned (OpenSpec.upto fillHighSpec)

/-- 'weighhouselaw.FillTrue', WHERE WHAT IT READS IS OF BULK AT MOST 1048576: true; the input reads as it did. -/
def fillTrueUptoRow : OpenClaim := { program := "ytijilfghfahgjaa", sum := "d316172022af9347dd9ab3315eba4df2258c79a6310f0e2cce14a11ba0290559", func := "weighhouse/weighhouselaw.FillTrue", spec := "fillTrue", unfollowed := true, recurses := true, apart := false, narrowed := true }
def FillTrueUptoSaid : Prop := fillTrueUptoRow.holds Try.pinned (OpenSpec.upto fillTrueSpec)

/-- 'weighhouselaw.PickPicks', WHERE WHAT IT READS IS OF BULK AT MOST 1048576: true; the input reads as it did. -/
def pickPicksUptoRow : OpenClaim := { program := "ytijilfghfahgjaa", sum := "d316172022af9347dd9ab3315eba4df2258c79a6310f0e2cce14a11ba0290559", func := "weighhouse/weighhouselaw.PickPicks", spec := "pickPicks", inPlace := ["slices.overlaps[weighhouse/api.Hold]"], unfollowed := true, recurses := true, apart := false, narrowed := true }
def PickPicksUptoSaid : Prop := pickPicksUptoRow.holds Try.pinned (OpenSpec.upto pickPicksSpec)

/-- 'weighhouselaw.PickTrue', WHERE WHAT IT READS IS OF BULK AT MOST 1048576: true; the input reads as it did. -/
def pickTrueUptoRow : OpenClaim := { program := "ytijilfghfahgjaa", sum := "d316172022af9347dd9ab3315eba4df2258c79a6310f0e2cce14a11ba0290559", func := "weighhouse/weighhouselaw.PickTrue", spec := "pickTrue", inPlace := ["slices.overlaps[weighhouse/api.Hold]"], unfollowed := true, recurses := true, apart := false, narrowed := true }
def PickTrueUptoSaid : Prop := pickTrueUptoRow.holds Try.pinned (OpenSpec.upto pickTrueSpec)

/-- 'weighhouselaw.WaveTells', WHERE WHAT IT READS IS OF BULK AT MOST 1048576: true; the input reads as it did. -/
def waveTellsUptoRow : OpenClaim := { program := "ytijilfghfahgjaa", sum := "d316172022af9347dd9ab3315eba4df2258c79a6310f0e2cce14a11ba0290559", func := "weighhouse/weighhouselaw.WaveTells", spec := "waveTells", inPlace := ["slices.overlaps[weighhouse/api.Hold]"], unfollowed := true, recurses := true, apart := false, narrowed := true }
def WaveTellsUptoSaid : Prop := waveTellsUptoRow.holds Try.pinned (OpenSpec.upto waveTellsSpec)

/-- 'weighhouselaw.WaveFirst', WHERE WHAT IT READS IS OF BULK AT MOST 1048576: true; the input reads as it did. -/
def waveFirstUptoRow : OpenClaim := { program := "ytijilfghfahgjaa", sum := "d316172022af9347dd9ab3315eba4df2258c79a6310f0e2cce14a11ba0290559", func := "weighhouse/weighhouselaw.WaveFirst", spec := "waveFirst", inPlace := ["slices.overlaps[weighhouse/api.Hold]"], unfollowed := true, recurses := true, apart := false, narrowed := true }
def WaveFirstUptoSaid : Prop := waveFirstUptoRow.holds Try.pinned (OpenSpec.upto waveFirstSpec)

/-- 'weighhouselaw.PickShort', WHERE WHAT IT READS IS OF BULK AT MOST 1048576: true; the input reads as it did. -/
def pickShortUptoRow : OpenClaim := { program := "ytijilfghfahgjaa", sum := "d316172022af9347dd9ab3315eba4df2258c79a6310f0e2cce14a11ba0290559", func := "weighhouse/weighhouselaw.PickShort", spec := "pickShort", inPlace := ["slices.overlaps[weighhouse/api.Hold]"], unfollowed := true, recurses := true, apart := false, narrowed := true }
def PickShortUptoSaid : Prop := pickShortUptoRow.holds Try.pinned (OpenSpec.upto pickShortSpec)

/-- 'weighhouselaw.WaveTrue', WHERE WHAT IT READS IS OF BULK AT MOST 1048576: true; the input reads as it did. -/
def waveTrueUptoRow : OpenClaim := { program := "ytijilfghfahgjaa", sum := "d316172022af9347dd9ab3315eba4df2258c79a6310f0e2cce14a11ba0290559", func := "weighhouse/weighhouselaw.WaveTrue", spec := "waveTrue", inPlace := ["slices.overlaps[weighhouse/api.Hold]"], unfollowed := true, recurses := true, apart := false, narrowed := true }
def WaveTrueUptoSaid : Prop := waveTrueUptoRow.holds Try.pinned (OpenSpec.upto waveTrueSpec)

/-- 'weighhouselaw.BookDone', WHERE WHAT IT READS IS OF BULK AT MOST 1048576: true; the input reads as it did. -/
def bookDoneUptoRow : OpenClaim := { program := "ytijilfghfahgjaa", sum := "d316172022af9347dd9ab3315eba4df2258c79a6310f0e2cce14a11ba0290559", func := "weighhouse/weighhouselaw.BookDone", spec := "bookDone", inPlace := ["slices.overlaps[weighhouse/api.Hold]"], unfollowed := true, recurses := true, apart := false, narrowed := true }
def BookDoneUptoSaid : Prop := bookDoneUptoRow.holds Try.pinned (OpenSpec.upto bookDoneSpec)

end Rows
end Go.Proofs.Ytijilfghfahgjaa
