/-
  No cell of these rows narrows 'for every input' (looked for: loops, veiled, ifaces, maps, wideKeys, modest, calm, conditions, laid).
  DERIVED. THE GIVEN ROWS OF THIS SEAT. 9 by the template 'for every input the law returns true; each argument reads behind the call as it read before'; 0 by the template 'total and deterministic' (their statements: YteafeopekfhnnaaTotals.lean).
  GIVEN WITH THE SEED: the statements are not yours to turn. If you find one false, say at which input.
  Laid BY PROGRAM, IN A SANDBOX (cutbox-rows.mjs): the forced cells as the released guide's own fill.sh prints them over the translation e09a7c30b5a47f67… (all of the seat's roots in one cut). By AI agents, Wed Nov 11 2026. No macro, syntax, notation, axiom, sorry.
-/
import Derived.Test.YteafeopekfhnnaaChecked
import GoSem.Claim
import GoSem.ClaimJoined
import GoSem.ClaimMapViews
import Derived.JoinedTies
import Derived.KernelRfl
namespace Go.Proofs.Yteafeopekfhnnaa
/- THE CELL 'sum', in the pinned program and in every row, IS THE sha256 OF THE DUMP (.gsa) THAT YteafeopekfhnnaaProg.lean LOADS. Nothing in Lean hashes anything: it is a label: what it is worth is what the hold of that sum in a sandbox is worth. -/
noncomputable def Try.pinned : Pinned := { name := "yteafeopekfhnnaa", sum := "e09a7c30b5a47f67af53808fe448edecb350c1abde9ad168779222a0280d0d76", checked := Try.checked }
namespace Rows
def none {H : Type} : Left H := { results := [], args := [] }

/-- 'weighhouselaw.PlanTells': WHATEVER THE INPUT: true; the input reads as it did. -/
def planTellsSpec : ChangeSpec := { name := "planTells", fn := fun _ => fun
  | [d] => { results := [.lit (.bool true)], args := [d] }
  | _ => none }
def planTellsRow : OpenClaim := { program := "yteafeopekfhnnaa", sum := "e09a7c30b5a47f67af53808fe448edecb350c1abde9ad168779222a0280d0d76", func := "weighhouse/weighhouselaw.PlanTells", spec := "planTells", unfollowed := true, recurses := true, apart := false }
def PlanTellsSaid : Prop := planTellsRow.holds Try.pinned (OpenSpec.ofChange planTellsSpec)

/-- ITS FALSE NEIGHBOUR: 'it returns false'. Refute it at one input. -/
def planTellsWrong : ChangeSpec := { name := "planTells", fn := fun _ => fun
  | [d] => { results := [.lit (.bool false)], args := [d] }
  | _ => none }
def PlanTellsWrongFalsely : Prop := planTellsRow.holds Try.pinned (OpenSpec.ofChange planTellsWrong)

/-- 'weighhouselaw.PlanWay': WHATEVER THE INPUT: true; the input reads as it did. -/
def planWaySpec : ChangeSpec := { name := "planWay", fn := fun _ => fun
  | [d] => { results := [.lit (.bool true)], args := [d] }
  | _ => none }
def planWayRow : OpenClaim := { program := "yteafeopekfhnnaa", sum := "e09a7c30b5a47f67af53808fe448edecb350c1abde9ad168779222a0280d0d76", func := "weighhouse/weighhouselaw.PlanWay", spec := "planWay", unfollowed := true, recurses := true, apart := false }
def PlanWaySaid : Prop := planWayRow.holds Try.pinned (OpenSpec.ofChange planWaySpec)

/-- ITS FALSE NEIGHBOUR: 'it returns false'. Refute it at one input. -/
def planWayWrong : ChangeSpec := { name := "planWay", fn := fun _ => fun
  | [d] => { results := [.lit (.bool false)], args := [d] }
  | _ => none }
def PlanWayWrongFalsely : Prop := planWayRow.holds Try.pinned (OpenSpec.ofChange planWayWrong)

/-- 'weighhouselaw.ShelfTells': WHATEVER THE INPUT: true; the input reads as it did. -/
def shelfTellsSpec : ChangeSpec := { name := "shelfTells", fn := fun _ => fun
  | [d1, d2, d3, d4] => { results := [.lit (.bool true)], args := [d1, d2, d3, d4] }
  | _ => none }
def shelfTellsRow : OpenClaim := { program := "yteafeopekfhnnaa", sum := "e09a7c30b5a47f67af53808fe448edecb350c1abde9ad168779222a0280d0d76", func := "weighhouse/weighhouselaw.ShelfTells", spec := "shelfTells", unfollowed := true, recurses := true, apart := false }
def ShelfTellsSaid : Prop := shelfTellsRow.holds Try.pinned (OpenSpec.ofChange shelfTellsSpec)

/-- ITS FALSE NEIGHBOUR: 'it returns false'. Refute it at one input. -/
def shelfTellsWrong : ChangeSpec := { name := "shelfTells", fn := fun _ => fun
  | [d1, d2, d3, d4] => { results := [.lit (.bool false)], args := [d1, d2, d3, d4] }
  | _ => none }
def ShelfTellsWrongFalsely : Prop := shelfTellsRow.holds Try.pinned (OpenSpec.ofChange shelfTellsWrong)

/-- 'weighhouselaw.ShelfPuts': WHATEVER THE INPUT: true; the input reads as it did. -/
def shelfPutsSpec : ChangeSpec := { name := "shelfPuts", fn := fun _ => fun
  | [d1, d2, d3, d4, d5] => { results := [.lit (.bool true)], args := [d1, d2, d3, d4, d5] }
  | _ => none }
def shelfPutsRow : OpenClaim := { program := "yteafeopekfhnnaa", sum := "e09a7c30b5a47f67af53808fe448edecb350c1abde9ad168779222a0280d0d76", func := "weighhouse/weighhouselaw.ShelfPuts", spec := "shelfPuts", unfollowed := true, recurses := true, apart := false }
def ShelfPutsSaid : Prop := shelfPutsRow.holds Try.pinned (OpenSpec.ofChange shelfPutsSpec)

/-- ITS FALSE NEIGHBOUR: 'it returns false'. Refute it at one input. -/
def shelfPutsWrong : ChangeSpec := { name := "shelfPuts", fn := fun _ => fun
  | [d1, d2, d3, d4, d5] => { results := [.lit (.bool false)], args := [d1, d2, d3, d4, d5] }
  | _ => none }
def ShelfPutsWrongFalsely : Prop := shelfPutsRow.holds Try.pinned (OpenSpec.ofChange shelfPutsWrong)

/-- 'weighhouselaw.ShelfTrue': WHATEVER THE INPUT: true; the input reads as it did. -/
def shelfTrueSpec : ChangeSpec := { name := "shelfTrue", fn := fun _ => fun
  | [d1, d2, d3, d4, d5, d6] => { results := [.lit (.bool true)], args := [d1, d2, d3, d4, d5, d6] }
  | _ => none }
def shelfTrueRow : OpenClaim := { program := "yteafeopekfhnnaa", sum := "e09a7c30b5a47f67af53808fe448edecb350c1abde9ad168779222a0280d0d76", func := "weighhouse/weighhouselaw.ShelfTrue", spec := "shelfTrue", unfollowed := true, recurses := true, apart := false }
def ShelfTrueSaid : Prop := shelfTrueRow.holds Try.pinned (OpenSpec.ofChange shelfTrueSpec)

/-- ITS FALSE NEIGHBOUR: 'it returns false'. Refute it at one input. -/
def shelfTrueWrong : ChangeSpec := { name := "shelfTrue", fn := fun _ => fun
  | [d1, d2, d3, d4, d5, d6] => { results := [.lit (.bool false)], args := [d1, d2, d3, d4, d5, d6] }
  | _ => none }
def ShelfTrueWrongFalsely : Prop := shelfTrueRow.holds Try.pinned (OpenSpec.ofChange shelfTrueWrong)

/-- 'weighhouselaw.HoldsTells': WHATEVER THE INPUT: true; the input reads as it did. -/
def holdsTellsSpec : ChangeSpec := { name := "holdsTells", fn := fun _ => fun
  | [d1, d2, d3, d4] => { results := [.lit (.bool true)], args := [d1, d2, d3, d4] }
  | _ => none }
def holdsTellsRow : OpenClaim := { program := "yteafeopekfhnnaa", sum := "e09a7c30b5a47f67af53808fe448edecb350c1abde9ad168779222a0280d0d76", func := "weighhouse/weighhouselaw.HoldsTells", spec := "holdsTells", inPlace := ["slices.overlaps[weighhouse/api.Hold]"], unfollowed := true, recurses := true, apart := false }
def HoldsTellsSaid : Prop := holdsTellsRow.holds Try.pinned (OpenSpec.ofChange holdsTellsSpec)

/-- ITS FALSE NEIGHBOUR: 'it returns false'. Refute it at one input. -/
def holdsTellsWrong : ChangeSpec := { name := "holdsTells", fn := fun _ => fun
  | [d1, d2, d3, d4] => { results := [.lit (.bool false)], args := [d1, d2, d3, d4] }
  | _ => none }
def HoldsTellsWrongFalsely : Prop := holdsTellsRow.holds Try.pinned (OpenSpec.ofChange holdsTellsWrong)

/-- 'weighhouselaw.HoldsAdds': WHATEVER THE INPUT: true; the input reads as it did. -/
def holdsAddsSpec : ChangeSpec := { name := "holdsAdds", fn := fun _ => fun
  | [d1, d2] => { results := [.lit (.bool true)], args := [d1, d2] }
  | _ => none }
def holdsAddsRow : OpenClaim := { program := "yteafeopekfhnnaa", sum := "e09a7c30b5a47f67af53808fe448edecb350c1abde9ad168779222a0280d0d76", func := "weighhouse/weighhouselaw.HoldsAdds", spec := "holdsAdds", inPlace := ["slices.overlaps[weighhouse/api.Hold]"], unfollowed := true, recurses := true, apart := false }
def HoldsAddsSaid : Prop := holdsAddsRow.holds Try.pinned (OpenSpec.ofChange holdsAddsSpec)

/-- ITS FALSE NEIGHBOUR: 'it returns false'. Refute it at one input. -/
def holdsAddsWrong : ChangeSpec := { name := "holdsAdds", fn := fun _ => fun
  | [d1, d2] => { results := [.lit (.bool false)], args := [d1, d2] }
  | _ => none }
def HoldsAddsWrongFalsely : Prop := holdsAddsRow.holds Try.pinned (OpenSpec.ofChange holdsAddsWrong)

/-- 'weighhouselaw.HoldsTrue': WHATEVER THE INPUT: true; the input reads as it did. -/
def holdsTrueSpec : ChangeSpec := { name := "holdsTrue", fn := fun _ => fun
  | [d1, d2] => { results := [.lit (.bool true)], args := [d1, d2] }
  | _ => none }
def holdsTrueRow : OpenClaim := { program := "yteafeopekfhnnaa", sum := "e09a7c30b5a47f67af53808fe448edecb350c1abde9ad168779222a0280d0d76", func := "weighhouse/weighhouselaw.HoldsTrue", spec := "holdsTrue", inPlace := ["slices.overlaps[weighhouse/api.Hold]"], unfollowed := true, recurses := true, apart := false }
def HoldsTrueSaid : Prop := holdsTrueRow.holds Try.pinned (OpenSpec.ofChange holdsTrueSpec)

/-- ITS FALSE NEIGHBOUR: 'it returns false'. Refute it at one input. -/
def holdsTrueWrong : ChangeSpec := { name := "holdsTrue", fn := fun _ => fun
  | [d1, d2] => { results := [.lit (.bool false)], args := [d1, d2] }
  | _ => none }
def HoldsTrueWrongFalsely : Prop := holdsTrueRow.holds Try.pinned (OpenSpec.ofChange holdsTrueWrong)

/-- 'weighhouselaw.HoldsOrder': WHATEVER THE INPUT: true; the input reads as it did. -/
def holdsOrderSpec : ChangeSpec := { name := "holdsOrder", fn := fun _ => fun
  | [d1, d2, d3] => { results := [.lit (.bool true)], args := [d1, d2, d3] }
  | _ => none }
def holdsOrderRow : OpenClaim := { program := "yteafeopekfhnnaa", sum := "e09a7c30b5a47f67af53808fe448edecb350c1abde9ad168779222a0280d0d76", func := "weighhouse/weighhouselaw.HoldsOrder", spec := "holdsOrder", inPlace := ["slices.overlaps[weighhouse/api.Hold]"], unfollowed := true, recurses := true, apart := false }
def HoldsOrderSaid : Prop := holdsOrderRow.holds Try.pinned (OpenSpec.ofChange holdsOrderSpec)

/-- ITS FALSE NEIGHBOUR: 'it returns false'. Refute it at one input. -/
def holdsOrderWrong : ChangeSpec := { name := "holdsOrder", fn := fun _ => fun
  | [d1, d2, d3] => { results := [.lit (.bool false)], args := [d1, d2, d3] }
  | _ => none }
def HoldsOrderWrongFalsely : Prop := holdsOrderRow.holds Try.pinned (OpenSpec.ofChange holdsOrderWrong)

/- THE SECOND FORM. 'bulk': how many values and letters a reading holds, each counted each time it is reached (what is shared counts as often as it is met; a slice's spare places count too). A statement '..UptoSaid' is the law's where the arguments, and the package variables that the reading takes, are together of bulk at most 1048576: NARROWER than '..Said'. Prove '..Said' where nothing that the law and all that it calls make is longer than what came in: it says more and counts as full. Else prove '..UptoSaid'. A law counts once. -/
mutual
def uptoBulk {H : Type} : DataW H → Nat
  | .lit (.string bytes) => bytes.length + 1
  | .lit _ => 1
  | .nil => 1
  | .ptr d => uptoBulk d + 1
  | .slice elems spare => uptoBulkAll elems + uptoBulkAll spare + 1
  | .agg parts => uptoBulkAll parts + 1
  | .iface _ d => uptoBulk d + 1
  | .map entries => uptoBulkEntries entries + 1
  | .held _ => 1
def uptoBulkAll {H : Type} : List (DataW H) → Nat
  | [] => 0
  | d :: r => uptoBulk d + uptoBulkAll r
def uptoBulkEntries {H : Type} : List (Lit × DataW H) → Nat
  | [] => 0
  | x :: r => uptoBulkEntry x + uptoBulkEntries r
def uptoBulkEntry {H : Type} : Lit × DataW H → Nat
  | (.string bytes, d) => bytes.length + uptoBulk d + 1
  | (_, d) => uptoBulk d + 1
 end
def uptoSmall : (H : Type) → List (DataW H) → Bool := fun _ ds => decide (uptoBulkAll ds ≤ 1048576)
def OpenSpec.upto (s : _root_.Go.ChangeSpec) : _root_.Go.OpenSpec := { _root_.Go.OpenSpec.ofChange s with cond := some uptoSmall }

/-- 'weighhouselaw.PlanTells', WHERE WHAT IT READS IS OF BULK AT MOST 1048576: true; the input reads as it did. -/
def planTellsUptoRow : OpenClaim := { program := "yteafeopekfhnnaa", sum := "e09a7c30b5a47f67af53808fe448edecb350c1abde9ad168779222a0280d0d76", func := "weighhouse/weighhouselaw.PlanTells", spec := "planTells", unfollowed := true, recurses := true, apart := false, narrowed := true }
def PlanTellsUptoSaid : Prop := planTellsUptoRow.holds Try.pinned (OpenSpec.upto planTellsSpec)

/-- 'weighhouselaw.PlanWay', WHERE WHAT IT READS IS OF BULK AT MOST 1048576: true; the input reads as it did. -/
def planWayUptoRow : OpenClaim := { program := "yteafeopekfhnnaa", sum := "e09a7c30b5a47f67af53808fe448edecb350c1abde9ad168779222a0280d0d76", func := "weighhouse/weighhouselaw.PlanWay", spec := "planWay", unfollowed := true, recurses := true, apart := false, narrowed := true }
def PlanWayUptoSaid : Prop := planWayUptoRow.holds Try.pinned (OpenSpec.upto planWaySpec)

/-- 'weighhouselaw.ShelfTells', WHERE WHAT IT READS IS OF BULK AT MOST 1048576: true; the input reads as it did. -/
def shelfTellsUptoRow : OpenClaim := { program := "yteafeopekfhnnaa", sum := "e09a7c30b5a47f67af53808fe448edecb350c1abde9ad168779222a0280d0d76", func := "weighhouse/weighhouselaw.ShelfTells", spec := "shelfTells", unfollowed := true, recurses := true, apart := false, narrowed := true }
def ShelfTellsUptoSaid : Prop := shelfTellsUptoRow.holds Try.pinned (OpenSpec.upto shelfTellsSpec)

/-- 'weighhouselaw.ShelfPuts', WHERE WHAT IT READS IS OF BULK AT MOST 1048576: true; the input reads as it did. -/
def shelfPutsUptoRow : OpenClaim := { program := "yteafeopekfhnnaa", sum := "e09a7c30b5a47f67af53808fe448edecb350c1abde9ad168779222a0280d0d76", func := "weighhouse/weighhouselaw.ShelfPuts", spec := "shelfPuts", unfollowed := true, recurses := true, apart := false, narrowed := true }
def ShelfPutsUptoSaid : Prop := shelfPutsUptoRow.holds Try.pinned (OpenSpec.upto shelfPutsSpec)

/-- 'weighhouselaw.ShelfTrue', WHERE WHAT IT READS IS OF BULK AT MOST 1048576: true; the input reads as it did. -/
def shelfTrueUptoRow : OpenClaim := { program := "yteafeopekfhnnaa", sum := "e09a7c30b5a47f67af53808fe448edecb350c1abde9ad168779222a0280d0d76", func := "weighhouse/weighhouselaw.ShelfTrue", spec := "shelfTrue", unfollowed := true, recurses := true, apart := false, narrowed := true }
def ShelfTrueUptoSaid : Prop := shelfTrueUptoRow.holds Try.pinned (OpenSpec.upto shelfTrueSpec)

/-- 'weighhouselaw.HoldsTells', WHERE WHAT IT READS IS OF BULK AT MOST 1048576: true; the input reads as it did. -/
def holdsTellsUptoRow : OpenClaim := { program := "yteafeopekfhnnaa", sum := "e09a7c30b5a47f67af53808fe448edecb350c1abde9ad168779222a0280d0d76", func := "weighhouse/weighhouselaw.HoldsTells", spec := "holdsTells", inPlace := ["slices.overlaps[weighhouse/api.Hold]"], unfollowed := true, recurses := true, apart := false, narrowed := true }
def HoldsTellsUptoSaid : Prop := holdsTellsUptoRow.holds Try.pinned (OpenSpec.upto holdsTellsSpec)

/-- 'weighhouselaw.HoldsAdds', WHERE WHAT IT READS IS OF BULK AT MOST 1048576: true; the input reads as it did. -/
def holdsAddsUptoRow : OpenClaim := { program := "yteafeopekfhnnaa", sum := "e09a7c30b5a47f67af53808fe448edecb350c1abde9ad168779222a0280d0d76", func := "weighhouse/weighhouselaw.HoldsAdds", spec := "holdsAdds", inPlace := ["slices.overlaps[weighhouse/api.Hold]"], unfollowed := true, recurses := true, apart := false, narrowed := true }
def HoldsAddsUptoSaid : Prop := holdsAddsUptoRow.holds Try.pinned (OpenSpec.upto holdsAddsSpec)

/-- 'weighhouselaw.HoldsTrue', WHERE WHAT IT READS IS OF BULK AT MOST 1048576: true; the input reads as it did. -/
def holdsTrueUptoRow : OpenClaim := { program := "yteafeopekfhnnaa", sum := "e09a7c30b5a47f67af53808fe448edecb350c1abde9ad168779222a0280d0d76", func := "weighhouse/weighhouselaw.HoldsTrue", spec := "holdsTrue", inPlace := ["slices.overlaps[weighhouse/api.Hold]"], unfollowed := true, recurses := true, apart := false, narrowed := true }
def HoldsTrueUptoSaid : Prop := holdsTrueUptoRow.holds Try.pinned (OpenSpec.upto holdsTrueSpec)

/-- 'weighhouselaw.HoldsOrder', WHERE WHAT IT READS IS OF BULK AT MOST 1048576: true; the input reads as it did. -/
def holdsOrderUptoRow : OpenClaim := { program := "yteafeopekfhnnaa", sum := "e09a7c30b5a47f67af53808fe448edecb350c1abde9ad168779222a0280d0d76", func := "weighhouse/weighhouselaw.HoldsOrder", spec := "holdsOrder", inPlace := ["slices.overlaps[weighhouse/api.Hold]"], unfollowed := true, recurses := true, apart := false, narrowed := true }
def HoldsOrderUptoSaid : Prop := holdsOrderUptoRow.holds Try.pinned (OpenSpec.upto holdsOrderSpec)

end Rows
end Go.Proofs.Yteafeopekfhnnaa
