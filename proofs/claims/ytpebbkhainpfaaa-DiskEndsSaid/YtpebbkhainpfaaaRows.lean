/-
  No cell of these rows narrows 'for every input' (looked for: loops, veiled, ifaces, maps, wideKeys, modest, calm, conditions, laid).
  DERIVED. THE GIVEN ROWS OF THIS SEAT. 10 by the template 'for every input the law returns true; each argument reads behind the call as it read before'; 0 by the template 'total and deterministic' (their statements: YtpebbkhainpfaaaTotals.lean).
  GIVEN WITH THE SEED: the statements are not yours to turn. If you find one false, say at which input.
  Laid BY PROGRAM, IN A SANDBOX (cutbox-rows.mjs): the forced cells as the released guide's own fill.sh prints them over the translation 6bd57e51bc5763f6… (all of the seat's roots in one cut). By AI agents, Wed Nov 11 2026. No macro, syntax, notation, axiom, sorry.
-/
import Derived.Test.YtpebbkhainpfaaaChecked
import GoSem.Claim
import GoSem.ClaimJoined
import GoSem.ClaimMapViews
import Derived.JoinedTies
import Derived.KernelRfl
namespace Go.Proofs.Ytpebbkhainpfaaa
/- THE CELL 'sum', in the pinned program and in every row, IS THE sha256 OF THE DUMP (.gsa) THAT YtpebbkhainpfaaaProg.lean LOADS. Nothing in Lean hashes anything: it is a label: what it is worth is what the hold of that sum in a sandbox is worth. -/
noncomputable def Try.pinned : Pinned := { name := "ytpebbkhainpfaaa", sum := "6bd57e51bc5763f67d61ced80eeab5e31fc1fb65f6cd4b5d71dcc248aeaa2bb3", checked := Try.checked }
namespace Rows
def none {H : Type} : Left H := { results := [], args := [] }

/-- 'tomelaw12.WafScans': WHATEVER THE INPUT: true; the input reads as it did. -/
def wafScansSpec : ChangeSpec := { name := "wafScans", fn := fun _ => fun
  | [d] => { results := [.lit (.bool true)], args := [d] }
  | _ => none }
def wafScansRow : OpenClaim := { program := "ytpebbkhainpfaaa", sum := "6bd57e51bc5763f67d61ced80eeab5e31fc1fb65f6cd4b5d71dcc248aeaa2bb3", func := "tome/tomelaw12.WafScans", spec := "wafScans", inPlace := ["internal/bytealg.MakeNoZero"], unfollowed := true, recurses := true, apart := false }
def WafScansSaid : Prop := wafScansRow.holds Try.pinned (OpenSpec.ofChange wafScansSpec)

/-- ITS FALSE NEIGHBOUR: 'it returns false'. Refute it at one input. -/
def wafScansWrong : ChangeSpec := { name := "wafScans", fn := fun _ => fun
  | [d] => { results := [.lit (.bool false)], args := [d] }
  | _ => none }
def WafScansWrongFalsely : Prop := wafScansRow.holds Try.pinned (OpenSpec.ofChange wafScansWrong)

/-- 'tomelaw12.WafLatest': WHATEVER THE INPUT: true; the input reads as it did. -/
def wafLatestSpec : ChangeSpec := { name := "wafLatest", fn := fun _ => fun
  | [d] => { results := [.lit (.bool true)], args := [d] }
  | _ => none }
def wafLatestRow : OpenClaim := { program := "ytpebbkhainpfaaa", sum := "6bd57e51bc5763f67d61ced80eeab5e31fc1fb65f6cd4b5d71dcc248aeaa2bb3", func := "tome/tomelaw12.WafLatest", spec := "wafLatest", inPlace := ["internal/bytealg.MakeNoZero"], unfollowed := true, recurses := true, apart := false }
def WafLatestSaid : Prop := wafLatestRow.holds Try.pinned (OpenSpec.ofChange wafLatestSpec)

/-- ITS FALSE NEIGHBOUR: 'it returns false'. Refute it at one input. -/
def wafLatestWrong : ChangeSpec := { name := "wafLatest", fn := fun _ => fun
  | [d] => { results := [.lit (.bool false)], args := [d] }
  | _ => none }
def WafLatestWrongFalsely : Prop := wafLatestRow.holds Try.pinned (OpenSpec.ofChange wafLatestWrong)

/-- 'tomelaw12.WafPuts': WHATEVER THE INPUT: true; the input reads as it did. -/
def wafPutsSpec : ChangeSpec := { name := "wafPuts", fn := fun _ => fun
  | [d1, d2, d3, d4] => { results := [.lit (.bool true)], args := [d1, d2, d3, d4] }
  | _ => none }
def wafPutsRow : OpenClaim := { program := "ytpebbkhainpfaaa", sum := "6bd57e51bc5763f67d61ced80eeab5e31fc1fb65f6cd4b5d71dcc248aeaa2bb3", func := "tome/tomelaw12.WafPuts", spec := "wafPuts", inPlace := ["internal/bytealg.MakeNoZero"], unfollowed := true, recurses := true, apart := false }
def WafPutsSaid : Prop := wafPutsRow.holds Try.pinned (OpenSpec.ofChange wafPutsSpec)

/-- ITS FALSE NEIGHBOUR: 'it returns false'. Refute it at one input. -/
def wafPutsWrong : ChangeSpec := { name := "wafPuts", fn := fun _ => fun
  | [d1, d2, d3, d4] => { results := [.lit (.bool false)], args := [d1, d2, d3, d4] }
  | _ => none }
def WafPutsWrongFalsely : Prop := wafPutsRow.holds Try.pinned (OpenSpec.ofChange wafPutsWrong)

/-- 'tomelaw12.WafBack': WHATEVER THE INPUT: true; the input reads as it did. -/
def wafBackSpec : ChangeSpec := { name := "wafBack", fn := fun _ => fun
  | [d1, d2] => { results := [.lit (.bool true)], args := [d1, d2] }
  | _ => none }
def wafBackRow : OpenClaim := { program := "ytpebbkhainpfaaa", sum := "6bd57e51bc5763f67d61ced80eeab5e31fc1fb65f6cd4b5d71dcc248aeaa2bb3", func := "tome/tomelaw12.WafBack", spec := "wafBack", inPlace := ["internal/bytealg.MakeNoZero"], unfollowed := true, recurses := true, apart := false }
def WafBackSaid : Prop := wafBackRow.holds Try.pinned (OpenSpec.ofChange wafBackSpec)

/-- ITS FALSE NEIGHBOUR: 'it returns false'. Refute it at one input. -/
def wafBackWrong : ChangeSpec := { name := "wafBack", fn := fun _ => fun
  | [d1, d2] => { results := [.lit (.bool false)], args := [d1, d2] }
  | _ => none }
def WafBackWrongFalsely : Prop := wafBackRow.holds Try.pinned (OpenSpec.ofChange wafBackWrong)

/-- 'tomelaw12.WafGoes': WHATEVER THE INPUT: true; the input reads as it did. -/
def wafGoesSpec : ChangeSpec := { name := "wafGoes", fn := fun _ => fun
  | [d1, d2, d3] => { results := [.lit (.bool true)], args := [d1, d2, d3] }
  | _ => none }
def wafGoesRow : OpenClaim := { program := "ytpebbkhainpfaaa", sum := "6bd57e51bc5763f67d61ced80eeab5e31fc1fb65f6cd4b5d71dcc248aeaa2bb3", func := "tome/tomelaw12.WafGoes", spec := "wafGoes", inPlace := ["internal/bytealg.MakeNoZero"], unfollowed := true, recurses := true, apart := false }
def WafGoesSaid : Prop := wafGoesRow.holds Try.pinned (OpenSpec.ofChange wafGoesSpec)

/-- ITS FALSE NEIGHBOUR: 'it returns false'. Refute it at one input. -/
def wafGoesWrong : ChangeSpec := { name := "wafGoes", fn := fun _ => fun
  | [d1, d2, d3] => { results := [.lit (.bool false)], args := [d1, d2, d3] }
  | _ => none }
def WafGoesWrongFalsely : Prop := wafGoesRow.holds Try.pinned (OpenSpec.ofChange wafGoesWrong)

/-- 'tomelaw07.DiskFull': WHATEVER THE INPUT: true; the input reads as it did. -/
def diskFullSpec : ChangeSpec := { name := "diskFull", fn := fun _ => fun
  | [d1, d2] => { results := [.lit (.bool true)], args := [d1, d2] }
  | _ => none }
def diskFullRow : OpenClaim := { program := "ytpebbkhainpfaaa", sum := "6bd57e51bc5763f67d61ced80eeab5e31fc1fb65f6cd4b5d71dcc248aeaa2bb3", func := "tome/tomelaw07.DiskFull", spec := "diskFull", unfollowed := true, recurses := true, apart := false }
def DiskFullSaid : Prop := diskFullRow.holds Try.pinned (OpenSpec.ofChange diskFullSpec)

/-- ITS FALSE NEIGHBOUR: 'it returns false'. Refute it at one input. -/
def diskFullWrong : ChangeSpec := { name := "diskFull", fn := fun _ => fun
  | [d1, d2] => { results := [.lit (.bool false)], args := [d1, d2] }
  | _ => none }
def DiskFullWrongFalsely : Prop := diskFullRow.holds Try.pinned (OpenSpec.ofChange diskFullWrong)

/-- 'tomelaw07.DiskPlays': WHATEVER THE INPUT: true; the input reads as it did. -/
def diskPlaysSpec : ChangeSpec := { name := "diskPlays", fn := fun _ => fun
  | [d] => { results := [.lit (.bool true)], args := [d] }
  | _ => none }
def diskPlaysRow : OpenClaim := { program := "ytpebbkhainpfaaa", sum := "6bd57e51bc5763f67d61ced80eeab5e31fc1fb65f6cd4b5d71dcc248aeaa2bb3", func := "tome/tomelaw07.DiskPlays", spec := "diskPlays", unfollowed := true, recurses := true, apart := false }
def DiskPlaysSaid : Prop := diskPlaysRow.holds Try.pinned (OpenSpec.ofChange diskPlaysSpec)

/-- ITS FALSE NEIGHBOUR: 'it returns false'. Refute it at one input. -/
def diskPlaysWrong : ChangeSpec := { name := "diskPlays", fn := fun _ => fun
  | [d] => { results := [.lit (.bool false)], args := [d] }
  | _ => none }
def DiskPlaysWrongFalsely : Prop := diskPlaysRow.holds Try.pinned (OpenSpec.ofChange diskPlaysWrong)

/-- 'tomelaw07.DiskEnds': WHATEVER THE INPUT: true; the input reads as it did. -/
def diskEndsSpec : ChangeSpec := { name := "diskEnds", fn := fun _ => fun
  | [d] => { results := [.lit (.bool true)], args := [d] }
  | _ => none }
def diskEndsRow : OpenClaim := { program := "ytpebbkhainpfaaa", sum := "6bd57e51bc5763f67d61ced80eeab5e31fc1fb65f6cd4b5d71dcc248aeaa2bb3", func := "tome/tomelaw07.DiskEnds", spec := "diskEnds", unfollowed := true, recurses := true, apart := false }
def DiskEndsSaid : Prop := diskEndsRow.holds Try.pinned (OpenSpec.ofChange diskEndsSpec)

/-- ITS FALSE NEIGHBOUR: 'it returns false'. Refute it at one input. -/
def diskEndsWrong : ChangeSpec := { name := "diskEnds", fn := fun _ => fun
  | [d] => { results := [.lit (.bool false)], args := [d] }
  | _ => none }
def DiskEndsWrongFalsely : Prop := diskEndsRow.holds Try.pinned (OpenSpec.ofChange diskEndsWrong)

/-- 'tomelaw07.DiskSafe': WHATEVER THE INPUT: true; the input reads as it did. -/
def diskSafeSpec : ChangeSpec := { name := "diskSafe", fn := fun _ => fun
  | [d1, d2, d3] => { results := [.lit (.bool true)], args := [d1, d2, d3] }
  | _ => none }
def diskSafeRow : OpenClaim := { program := "ytpebbkhainpfaaa", sum := "6bd57e51bc5763f67d61ced80eeab5e31fc1fb65f6cd4b5d71dcc248aeaa2bb3", func := "tome/tomelaw07.DiskSafe", spec := "diskSafe", unfollowed := true, recurses := true, apart := false }
def DiskSafeSaid : Prop := diskSafeRow.holds Try.pinned (OpenSpec.ofChange diskSafeSpec)

/-- ITS FALSE NEIGHBOUR: 'it returns false'. Refute it at one input. -/
def diskSafeWrong : ChangeSpec := { name := "diskSafe", fn := fun _ => fun
  | [d1, d2, d3] => { results := [.lit (.bool false)], args := [d1, d2, d3] }
  | _ => none }
def DiskSafeWrongFalsely : Prop := diskSafeRow.holds Try.pinned (OpenSpec.ofChange diskSafeWrong)

/-- 'tomelaw07.DiskCuts': WHATEVER THE INPUT: true; the input reads as it did. -/
def diskCutsSpec : ChangeSpec := { name := "diskCuts", fn := fun _ => fun
  | [d1, d2] => { results := [.lit (.bool true)], args := [d1, d2] }
  | _ => none }
def diskCutsRow : OpenClaim := { program := "ytpebbkhainpfaaa", sum := "6bd57e51bc5763f67d61ced80eeab5e31fc1fb65f6cd4b5d71dcc248aeaa2bb3", func := "tome/tomelaw07.DiskCuts", spec := "diskCuts", unfollowed := true, recurses := true, apart := false }
def DiskCutsSaid : Prop := diskCutsRow.holds Try.pinned (OpenSpec.ofChange diskCutsSpec)

/-- ITS FALSE NEIGHBOUR: 'it returns false'. Refute it at one input. -/
def diskCutsWrong : ChangeSpec := { name := "diskCuts", fn := fun _ => fun
  | [d1, d2] => { results := [.lit (.bool false)], args := [d1, d2] }
  | _ => none }
def DiskCutsWrongFalsely : Prop := diskCutsRow.holds Try.pinned (OpenSpec.ofChange diskCutsWrong)

/- THE SECOND FORM. 'bulk': how many values and letters a reading holds, each counted each time it is reached (what is shared counts as often as it is met; a slice's spare places count too). A statement '..UptoSaid' is the law's where the arguments, and the package variables that the reading takes, are together of bulk at most 1048576: NARROWER than '..Said'. Prove '..Said' where nothing that the law and all that it calls make is longer than what came in: it says more and counts as full. Else prove '..UptoSaid'. A law counts once. -/
mutual
def uptoBulk {H : Type} : DataW H → Nat
  | .lit (.string bytes) => bytes.length + 1
  | .lit _ => 1
  | .nil => 1
  | .ptr d => uptoBulk d + 1
  | .slice elems spare => uptoBulkAll elems + uptoBulkAll spare + 1
  | .agg parts => uptoBulkAll parts + 1
  | .iface _ d => uptoBulk d + 1
  | .map entries => uptoBulkEntries entries + 1
  | .held _ => 1
def uptoBulkAll {H : Type} : List (DataW H) → Nat
  | [] => 0
  | d :: r => uptoBulk d + uptoBulkAll r
def uptoBulkEntries {H : Type} : List (Lit × DataW H) → Nat
  | [] => 0
  | x :: r => uptoBulkEntry x + uptoBulkEntries r
def uptoBulkEntry {H : Type} : Lit × DataW H → Nat
  | (.string bytes, d) => bytes.length + uptoBulk d + 1
  | (_, d) => uptoBulk d + 1
 end
def uptoSmall : (H : Type) → List (DataW H) → Bool := fun _ ds => decide (uptoBulkAll ds ≤ 1048576)
def OpenSpec.upto (s : _root_.Go.ChangeSpec) : _root_.Go.OpenSpec := { _root_.Go.OpenSpec.ofChange s with cond := some uptoSmall }

/-- 'tomelaw12.WafScans', WHERE WHAT IT READS IS OF BULK AT MOST 1048576: true; the input reads as it did. -/
def wafScansUptoRow : OpenClaim := { program := "ytpebbkhainpfaaa", sum := "6bd57e51bc5763f67d61ced80eeab5e31fc1fb65f6cd4b5d71dcc248aeaa2bb3", func := "tome/tomelaw12.WafScans", spec := "wafScans", inPlace := ["internal/bytealg.MakeNoZero"], unfollowed := true, recurses := true, apart := false, narrowed := true }
def WafScansUptoSaid : Prop := wafScansUptoRow.holds Try.pinned (OpenSpec.upto wafScansSpec)

/-- 'tomelaw12.WafLatest', WHERE WHAT IT READS IS OF BULK AT MOST 1048576: true; the input reads as it did. -/
def wafLatestUptoRow : OpenClaim := { program := "ytpebbkhainpfaaa", sum := "6bd57e51bc5763f67d61ced80eeab5e31fc1fb65f6cd4b5d71dcc248aeaa2bb3", func := "tome/tomelaw12.WafLatest", spec := "wafLatest", inPlace := ["internal/bytealg.MakeNoZero"], unfollowed := true, recurses := true, apart := false, narrowed := true }
def WafLatestUptoSaid : Prop := wafLatestUptoRow.holds Try.pinned (OpenSpec.upto wafLatestSpec)

/-- 'tomelaw12.WafPuts', WHERE WHAT IT READS IS OF BULK AT MOST 1048576: true; the input reads as it did. -/
def wafPutsUptoRow : OpenClaim := { program := "ytpebbkhainpfaaa", sum := "6bd57e51bc5763f67d61ced80eeab5e31fc1fb65f6cd4b5d71dcc248aeaa2bb3", func := "tome/tomelaw12.WafPuts", spec := "wafPuts", inPlace := ["internal/bytealg.MakeNoZero"], unfollowed := true, recurses := true, apart := false, narrowed := true }
def WafPutsUptoSaid : Prop := wafPutsUptoRow.holds Try.pinned (OpenSpec.upto wafPutsSpec)

/-- 'tomelaw12.WafBack', WHERE WHAT IT READS IS OF BULK AT MOST 1048576: true; the input reads as it did. -/
def wafBackUptoRow : OpenClaim := { program := "ytpebbkhainpfaaa", sum := "6bd57e51bc5763f67d61ced80eeab5e31fc1fb65f6cd4b5d71dcc248aeaa2bb3", func := "tome/tomelaw12.WafBack", spec := "wafBack", inPlace := ["internal/bytealg.MakeNoZero"], unfollowed := true, recurses := true, apart := false, narrowed := true }
def WafBackUptoSaid : Prop := wafBackUptoRow.holds Try.pinned (OpenSpec.upto wafBackSpec)

/-- 'tomelaw12.WafGoes', WHERE WHAT IT READS IS OF BULK AT MOST 1048576: true; the input reads as it did. -/
def wafGoesUptoRow : OpenClaim := { program := "ytpebbkhainpfaaa", sum := "6bd57e51bc5763f67d61ced80eeab5e31fc1fb65f6cd4b5d71dcc248aeaa2bb3", func := "tome/tomelaw12.WafGoes", spec := "wafGoes", inPlace := ["internal/bytealg.MakeNoZero"], unfollowed := true, recurses := true, apart := false, narrowed := true }
def WafGoesUptoSaid : Prop := wafGoesUptoRow.holds Try.pinned (OpenSpec.upto wafGoesSpec)

/-- 'tomelaw07.DiskFull', WHERE WHAT IT READS IS OF BULK AT MOST 1048576: true; the input reads as it did. -/
def diskFullUptoRow : OpenClaim := { program := "ytpebbkhainpfaaa", sum := "6bd57e51bc5763f67d61ced80eeab5e31fc1fb65f6cd4b5d71dcc248aeaa2bb3", func := "tome/tomelaw07.DiskFull", spec := "diskFull", unfollowed := true, recurses := true, apart := false, narrowed := true }
def DiskFullUptoSaid : Prop := diskFullUptoRow.holds Try.pinned (OpenSpec.upto diskFullSpec)

/-- 'tomelaw07.DiskPlays', WHERE WHAT IT READS IS OF BULK AT MOST 1048576: true; the input reads as it did. -/
def diskPlaysUptoRow : OpenClaim := { program := "ytpebbkhainpfaaa", sum := "6bd57e51bc5763f67d61ced80eeab5e31fc1fb65f6cd4b5d71dcc248aeaa2bb3", func := "tome/tomelaw07.DiskPlays", spec := "diskPlays", unfollowed := true, recurses := true, apart := false, narrowed := true }
def DiskPlaysUptoSaid : Prop := diskPlaysUptoRow.holds Try.pinned (OpenSpec.upto diskPlaysSpec)

/-- 'tomelaw07.DiskEnds', WHERE WHAT IT READS IS OF BULK AT MOST 1048576: true; the input reads as it did. -/
def diskEndsUptoRow : OpenClaim := { program := "ytpebbkhainpfaaa", sum := "6bd57e51bc5763f67d61ced80eeab5e31fc1fb65f6cd4b5d71dcc248aeaa2bb3", func := "tome/tomelaw07.DiskEnds", spec := "diskEnds", unfollowed := true, recurses := true, apart := false, narrowed := true }
def DiskEndsUptoSaid : Prop := diskEndsUptoRow.holds Try.pinned (OpenSpec.upto diskEndsSpec)

/-- 'tomelaw07.DiskSafe', WHERE WHAT IT READS IS OF BULK AT MOST 1048576: true; the input reads as it did. -/
def diskSafeUptoRow : OpenClaim := { program := "ytpebbkhainpfaaa", sum := "6bd57e51bc5763f67d61ced80eeab5e31fc1fb65f6cd4b5d71dcc248aeaa2bb3", func := "tome/tomelaw07.DiskSafe", spec := "diskSafe", unfollowed := true, recurses := true, apart := false, narrowed := true }
def DiskSafeUptoSaid : Prop := diskSafeUptoRow.holds Try.pinned (OpenSpec.upto diskSafeSpec)

/-- 'tomelaw07.DiskCuts', WHERE WHAT IT READS IS OF BULK AT MOST 1048576: true; the input reads as it did. -/
def diskCutsUptoRow : OpenClaim := { program := "ytpebbkhainpfaaa", sum := "6bd57e51bc5763f67d61ced80eeab5e31fc1fb65f6cd4b5d71dcc248aeaa2bb3", func := "tome/tomelaw07.DiskCuts", spec := "diskCuts", unfollowed := true, recurses := true, apart := false, narrowed := true }
def DiskCutsUptoSaid : Prop := diskCutsUptoRow.holds Try.pinned (OpenSpec.upto diskCutsSpec)

end Rows
end Go.Proofs.Ytpebbkhainpfaaa
