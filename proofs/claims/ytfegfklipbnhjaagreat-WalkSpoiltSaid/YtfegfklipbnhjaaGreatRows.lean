/-
  No cell of these rows narrows 'for every input' (looked for: loops, veiled, ifaces, maps, wideKeys, modest, calm, conditions, laid).
  DERIVED. THE GIVEN ROWS OF THIS SEAT. 7 by the template 'for every input the law returns true; each argument reads behind the call as it read before'; 0 by the template 'total and deterministic' (their statements: YtfegfklipbnhjaaGreatTotals.lean).
  GIVEN WITH THE SEED: the statements are not yours to turn. If you find one false, say at which input.
  Laid BY PROGRAM, IN A SANDBOX (cutbox-rows.mjs): the forced cells as the released guide's own fill.sh prints them over the translation af032465fb731744… (all of the seat's roots in one cut). By AI agents, Wed Nov 11 2026. No macro, syntax, notation, axiom, sorry.
-/
import Derived.Test.YtfegfklipbnhjaaGreatChecked
import GoSem.Claim
import GoSem.ClaimJoined
import GoSem.ClaimMapViews
import Derived.JoinedTies
import Derived.KernelRfl
namespace Go.Proofs.YtfegfklipbnhjaaGreat
/- THE CELL 'sum', in the pinned program and in every row, IS THE sha256 OF THE DUMP (.gsa) THAT YtfegfklipbnhjaaGreatProg.lean LOADS. Nothing in Lean hashes anything: it is a label: what it is worth is what the hold of that sum in a sandbox is worth. -/
noncomputable def Tryz.pinned : Pinned := { name := "ytfegfklipbnhjaagreat", sum := "af032465fb731744166d8513316876f214ff80dbfe2718640e10e7ac413fb996", checked := Tryz.checked }
namespace Rows
def none {H : Type} : Left H := { results := [], args := [] }

/-- 'tomelaw21.WalkRanges': WHATEVER THE INPUT: true; the input reads as it did. -/
def walkRangesSpec : ChangeSpec := { name := "walkRanges", fn := fun _ => fun
  | [d1, d2, d3] => { results := [.lit (.bool true)], args := [d1, d2, d3] }
  | _ => none }
def walkRangesRow : OpenClaim := { program := "ytfegfklipbnhjaagreat", sum := "af032465fb731744166d8513316876f214ff80dbfe2718640e10e7ac413fb996", func := "tome/tomelaw21.WalkRanges", spec := "walkRanges", inPlace := ["internal/bytealg.MakeNoZero", "slices.overlaps[tome/api.Cell]", "slices.overlaps[int64]", "slices.overlaps[int]"], unfollowed := true, recurses := true, apart := false }
def WalkRangesSaid : Prop := walkRangesRow.holds Tryz.pinned (OpenSpec.ofChange walkRangesSpec)

/-- ITS FALSE NEIGHBOUR: 'it returns false'. Refute it at one input. -/
def walkRangesWrong : ChangeSpec := { name := "walkRanges", fn := fun _ => fun
  | [d1, d2, d3] => { results := [.lit (.bool false)], args := [d1, d2, d3] }
  | _ => none }
def WalkRangesWrongFalsely : Prop := walkRangesRow.holds Tryz.pinned (OpenSpec.ofChange walkRangesWrong)

/-- 'tomelaw21.WalkSpoilt': WHATEVER THE INPUT: true; the input reads as it did. -/
def walkSpoiltSpec : ChangeSpec := { name := "walkSpoilt", fn := fun _ => fun
  | [d1, d2] => { results := [.lit (.bool true)], args := [d1, d2] }
  | _ => none }
def walkSpoiltRow : OpenClaim := { program := "ytfegfklipbnhjaagreat", sum := "af032465fb731744166d8513316876f214ff80dbfe2718640e10e7ac413fb996", func := "tome/tomelaw21.WalkSpoilt", spec := "walkSpoilt", inPlace := ["internal/bytealg.MakeNoZero", "slices.overlaps[tome/api.Cell]", "slices.overlaps[int64]", "slices.overlaps[int]"], unfollowed := true, recurses := true, apart := false }
def WalkSpoiltSaid : Prop := walkSpoiltRow.holds Tryz.pinned (OpenSpec.ofChange walkSpoiltSpec)

/-- ITS FALSE NEIGHBOUR: 'it returns false'. Refute it at one input. -/
def walkSpoiltWrong : ChangeSpec := { name := "walkSpoilt", fn := fun _ => fun
  | [d1, d2] => { results := [.lit (.bool false)], args := [d1, d2] }
  | _ => none }
def WalkSpoiltWrongFalsely : Prop := walkSpoiltRow.holds Tryz.pinned (OpenSpec.ofChange walkSpoiltWrong)

/-- 'tomelaw21.WalkPlays': WHATEVER THE INPUT: true; the input reads as it did. -/
def walkPlaysSpec : ChangeSpec := { name := "walkPlays", fn := fun _ => fun
  | [d1, d2] => { results := [.lit (.bool true)], args := [d1, d2] }
  | _ => none }
def walkPlaysRow : OpenClaim := { program := "ytfegfklipbnhjaagreat", sum := "af032465fb731744166d8513316876f214ff80dbfe2718640e10e7ac413fb996", func := "tome/tomelaw21.WalkPlays", spec := "walkPlays", inPlace := ["internal/bytealg.MakeNoZero", "slices.overlaps[tome/api.Cell]", "slices.overlaps[int64]", "slices.overlaps[int]"], unfollowed := true, recurses := true, apart := false }
def WalkPlaysSaid : Prop := walkPlaysRow.holds Tryz.pinned (OpenSpec.ofChange walkPlaysSpec)

/-- ITS FALSE NEIGHBOUR: 'it returns false'. Refute it at one input. -/
def walkPlaysWrong : ChangeSpec := { name := "walkPlays", fn := fun _ => fun
  | [d1, d2] => { results := [.lit (.bool false)], args := [d1, d2] }
  | _ => none }
def WalkPlaysWrongFalsely : Prop := walkPlaysRow.holds Tryz.pinned (OpenSpec.ofChange walkPlaysWrong)

/-- 'tomelaw21.WalkBack': WHATEVER THE INPUT: true; the input reads as it did. -/
def walkBackSpec : ChangeSpec := { name := "walkBack", fn := fun _ => fun
  | [d1, d2] => { results := [.lit (.bool true)], args := [d1, d2] }
  | _ => none }
def walkBackRow : OpenClaim := { program := "ytfegfklipbnhjaagreat", sum := "af032465fb731744166d8513316876f214ff80dbfe2718640e10e7ac413fb996", func := "tome/tomelaw21.WalkBack", spec := "walkBack", inPlace := ["internal/bytealg.MakeNoZero", "slices.overlaps[tome/api.Cell]", "slices.overlaps[int64]", "slices.overlaps[int]"], unfollowed := true, recurses := true, apart := false }
def WalkBackSaid : Prop := walkBackRow.holds Tryz.pinned (OpenSpec.ofChange walkBackSpec)

/-- ITS FALSE NEIGHBOUR: 'it returns false'. Refute it at one input. -/
def walkBackWrong : ChangeSpec := { name := "walkBack", fn := fun _ => fun
  | [d1, d2] => { results := [.lit (.bool false)], args := [d1, d2] }
  | _ => none }
def WalkBackWrongFalsely : Prop := walkBackRow.holds Tryz.pinned (OpenSpec.ofChange walkBackWrong)

/-- 'tomelaw20.TreePlays': WHATEVER THE INPUT: true; the input reads as it did. -/
def treePlaysSpec : ChangeSpec := { name := "treePlays", fn := fun _ => fun
  | [d1, d2, d3] => { results := [.lit (.bool true)], args := [d1, d2, d3] }
  | _ => none }
def treePlaysRow : OpenClaim := { program := "ytfegfklipbnhjaagreat", sum := "af032465fb731744166d8513316876f214ff80dbfe2718640e10e7ac413fb996", func := "tome/tomelaw20.TreePlays", spec := "treePlays", inPlace := ["internal/bytealg.MakeNoZero", "slices.overlaps[tome/api.Cell]", "slices.overlaps[int64]", "slices.overlaps[int]"], unfollowed := true, recurses := true, apart := false }
def TreePlaysSaid : Prop := treePlaysRow.holds Tryz.pinned (OpenSpec.ofChange treePlaysSpec)

/-- ITS FALSE NEIGHBOUR: 'it returns false'. Refute it at one input. -/
def treePlaysWrong : ChangeSpec := { name := "treePlays", fn := fun _ => fun
  | [d1, d2, d3] => { results := [.lit (.bool false)], args := [d1, d2, d3] }
  | _ => none }
def TreePlaysWrongFalsely : Prop := treePlaysRow.holds Tryz.pinned (OpenSpec.ofChange treePlaysWrong)

/-- 'tomelaw20.TreeRaw': WHATEVER THE INPUT: true; the input reads as it did. -/
def treeRawSpec : ChangeSpec := { name := "treeRaw", fn := fun _ => fun
  | [d1, d2, d3] => { results := [.lit (.bool true)], args := [d1, d2, d3] }
  | _ => none }
def treeRawRow : OpenClaim := { program := "ytfegfklipbnhjaagreat", sum := "af032465fb731744166d8513316876f214ff80dbfe2718640e10e7ac413fb996", func := "tome/tomelaw20.TreeRaw", spec := "treeRaw", inPlace := ["internal/bytealg.MakeNoZero", "slices.overlaps[tome/api.Cell]", "slices.overlaps[int64]", "slices.overlaps[int]"], unfollowed := true, recurses := true, apart := false }
def TreeRawSaid : Prop := treeRawRow.holds Tryz.pinned (OpenSpec.ofChange treeRawSpec)

/-- ITS FALSE NEIGHBOUR: 'it returns false'. Refute it at one input. -/
def treeRawWrong : ChangeSpec := { name := "treeRaw", fn := fun _ => fun
  | [d1, d2, d3] => { results := [.lit (.bool false)], args := [d1, d2, d3] }
  | _ => none }
def TreeRawWrongFalsely : Prop := treeRawRow.holds Tryz.pinned (OpenSpec.ofChange treeRawWrong)

/-- 'tomelaw20.TreeEnds': WHATEVER THE INPUT: true; the input reads as it did. -/
def treeEndsSpec : ChangeSpec := { name := "treeEnds", fn := fun _ => fun
  | [d1, d2, d3] => { results := [.lit (.bool true)], args := [d1, d2, d3] }
  | _ => none }
def treeEndsRow : OpenClaim := { program := "ytfegfklipbnhjaagreat", sum := "af032465fb731744166d8513316876f214ff80dbfe2718640e10e7ac413fb996", func := "tome/tomelaw20.TreeEnds", spec := "treeEnds", inPlace := ["internal/bytealg.MakeNoZero", "slices.overlaps[tome/api.Cell]", "slices.overlaps[int64]", "slices.overlaps[int]"], unfollowed := true, recurses := true, apart := false }
def TreeEndsSaid : Prop := treeEndsRow.holds Tryz.pinned (OpenSpec.ofChange treeEndsSpec)

/-- ITS FALSE NEIGHBOUR: 'it returns false'. Refute it at one input. -/
def treeEndsWrong : ChangeSpec := { name := "treeEnds", fn := fun _ => fun
  | [d1, d2, d3] => { results := [.lit (.bool false)], args := [d1, d2, d3] }
  | _ => none }
def TreeEndsWrongFalsely : Prop := treeEndsRow.holds Tryz.pinned (OpenSpec.ofChange treeEndsWrong)

/- THE SECOND FORM. 'bulk': how many values and letters a reading holds, each counted each time it is reached (what is shared counts as often as it is met; a slice's spare places count too). A statement '..UptoSaid' is the law's where the arguments, and the package variables that the reading takes, are together of bulk at most 1048576: NARROWER than '..Said'. Prove '..Said' where nothing that the law and all that it calls make is longer than what came in: it says more and counts as full. Else prove '..UptoSaid'. A law counts once. -/
mutual
def uptoBulk {H : Type} : DataW H → Nat
  | .lit (.string bytes) => bytes.length + 1
  | .lit _ => 1
  | .nil => 1
  | .ptr d => uptoBulk d + 1
  | .slice elems spare => uptoBulkAll elems + uptoBulkAll spare + 1
  | .agg parts => uptoBulkAll parts + 1
  | .iface _ d => uptoBulk d + 1
  | .map entries => uptoBulkEntries entries + 1
  | .held _ => 1
def uptoBulkAll {H : Type} : List (DataW H) → Nat
  | [] => 0
  | d :: r => uptoBulk d + uptoBulkAll r
def uptoBulkEntries {H : Type} : List (Lit × DataW H) → Nat
  | [] => 0
  | x :: r => uptoBulkEntry x + uptoBulkEntries r
def uptoBulkEntry {H : Type} : Lit × DataW H → Nat
  | (.string bytes, d) => bytes.length + uptoBulk d + 1
  | (_, d) => uptoBulk d + 1
 end
def uptoSmall : (H : Type) → List (DataW H) → Bool := fun _ ds => decide (uptoBulkAll ds ≤ 1048576)
def OpenSpec.upto (s : _root_.Go.ChangeSpec) : _root_.Go.OpenSpec := { _root_.Go.OpenSpec.ofChange s with cond := some uptoSmall }

/-- 'tomelaw21.WalkRanges', WHERE WHAT IT READS IS OF BULK AT MOST 1048576: true; the input reads as it did. -/
def walkRangesUptoRow : OpenClaim := { program := "ytfegfklipbnhjaagreat", sum := "af032465fb731744166d8513316876f214ff80dbfe2718640e10e7ac413fb996", func := "tome/tomelaw21.WalkRanges", spec := "walkRanges", inPlace := ["internal/bytealg.MakeNoZero", "slices.overlaps[tome/api.Cell]", "slices.overlaps[int64]", "slices.overlaps[int]"], unfollowed := true, recurses := true, apart := false, narrowed := true }
def WalkRangesUptoSaid : Prop := walkRangesUptoRow.holds Tryz.pinned (OpenSpec.upto walkRangesSpec)

/-- 'tomelaw21.WalkSpoilt', WHERE WHAT IT READS IS OF BULK AT MOST 1048576: true; the input reads as it did. -/
def walkSpoiltUptoRow : OpenClaim := { program := "ytfegfklipbnhjaagreat", sum := "af032465fb731744166d8513316876f214ff80dbfe2718640e10e7ac413fb996", func := "tome/tomelaw21.WalkSpoilt", spec := "walkSpoilt", inPlace := ["internal/bytealg.MakeNoZero", "slices.overlaps[tome/api.Cell]", "slices.overlaps[int64]", "slices.overlaps[int]"], unfollowed := true, recurses := true, apart := false, narrowed := true }
def WalkSpoiltUptoSaid : Prop := walkSpoiltUptoRow.holds Tryz.pinned (OpenSpec.upto walkSpoiltSpec)

/-- 'tomelaw21.WalkPlays', WHERE WHAT IT READS IS OF BULK AT MOST 1048576: true; the input reads as it did. -/
def walkPlaysUptoRow : OpenClaim := { program := "ytfegfklipbnhjaagreat", sum := "af032465fb731744166d8513316876f214ff80dbfe2718640e10e7ac413fb996", func := "tome/tomelaw21.WalkPlays", spec := "walkPlays", inPlace := ["internal/bytealg.MakeNoZero", "slices.overlaps[tome/api.Cell]", "slices.overlaps[int64]", "slices.overlaps[int]"], unfollowed := true, recurses := true, apart := false, narrowed := true }
def WalkPlaysUptoSaid : Prop := walkPlaysUptoRow.holds Tryz.pinned (OpenSpec.upto walkPlaysSpec)

/-- 'tomelaw21.WalkBack', WHERE WHAT IT READS IS OF BULK AT MOST 1048576: true; the input reads as it did. -/
def walkBackUptoRow : OpenClaim := { program := "ytfegfklipbnhjaagreat", sum := "af032465fb731744166d8513316876f214ff80dbfe2718640e10e7ac413fb996", func := "tome/tomelaw21.WalkBack", spec := "walkBack", inPlace := ["internal/bytealg.MakeNoZero", "slices.overlaps[tome/api.Cell]", "slices.overlaps[int64]", "slices.overlaps[int]"], unfollowed := true, recurses := true, apart := false, narrowed := true }
def WalkBackUptoSaid : Prop := walkBackUptoRow.holds Tryz.pinned (OpenSpec.upto walkBackSpec)

/-- 'tomelaw20.TreePlays', WHERE WHAT IT READS IS OF BULK AT MOST 1048576: true; the input reads as it did. -/
def treePlaysUptoRow : OpenClaim := { program := "ytfegfklipbnhjaagreat", sum := "af032465fb731744166d8513316876f214ff80dbfe2718640e10e7ac413fb996", func := "tome/tomelaw20.TreePlays", spec := "treePlays", inPlace := ["internal/bytealg.MakeNoZero", "slices.overlaps[tome/api.Cell]", "slices.overlaps[int64]", "slices.overlaps[int]"], unfollowed := true, recurses := true, apart := false, narrowed := true }
def TreePlaysUptoSaid : Prop := treePlaysUptoRow.holds Tryz.pinned (OpenSpec.upto treePlaysSpec)

/-- 'tomelaw20.TreeRaw', WHERE WHAT IT READS IS OF BULK AT MOST 1048576: true; the input reads as it did. -/
def treeRawUptoRow : OpenClaim := { program := "ytfegfklipbnhjaagreat", sum := "af032465fb731744166d8513316876f214ff80dbfe2718640e10e7ac413fb996", func := "tome/tomelaw20.TreeRaw", spec := "treeRaw", inPlace := ["internal/bytealg.MakeNoZero", "slices.overlaps[tome/api.Cell]", "slices.overlaps[int64]", "slices.overlaps[int]"], unfollowed := true, recurses := true, apart := false, narrowed := true }
def TreeRawUptoSaid : Prop := treeRawUptoRow.holds Tryz.pinned (OpenSpec.upto treeRawSpec)

/-- 'tomelaw20.TreeEnds', WHERE WHAT IT READS IS OF BULK AT MOST 1048576: true; the input reads as it did. -/
def treeEndsUptoRow : OpenClaim := { program := "ytfegfklipbnhjaagreat", sum := "af032465fb731744166d8513316876f214ff80dbfe2718640e10e7ac413fb996", func := "tome/tomelaw20.TreeEnds", spec := "treeEnds", inPlace := ["internal/bytealg.MakeNoZero", "slices.overlaps[tome/api.Cell]", "slices.overlaps[int64]", "slices.overlaps[int]"], unfollowed := true, recurses := true, apart := false, narrowed := true }
def TreeEndsUptoSaid : Prop := treeEndsUptoRow.holds Tryz.pinned (OpenSpec.upto treeEndsSpec)

end Rows
end Go.Proofs.YtfegfklipbnhjaaGreat
