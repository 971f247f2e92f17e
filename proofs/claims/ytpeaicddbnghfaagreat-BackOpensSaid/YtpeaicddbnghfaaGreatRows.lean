/-
  No cell of these rows narrows 'for every input' (looked for: loops, veiled, ifaces, maps, wideKeys, modest, calm, conditions, laid).
  DERIVED. THE GIVEN ROWS OF THIS SEAT. 10 by the template 'for every input the law returns true; each argument reads behind the call as it read before'; 0 by the template 'total and deterministic' (their statements: YtpeaicddbnghfaaGreatTotals.lean).
  GIVEN WITH THE SEED: the statements are not yours to turn. If you find one false, say at which input.
  Laid BY PROGRAM, IN A SANDBOX (cutbox-rows.mjs): the forced cells as the released guide's own fill.sh prints them over the translation b5288f2f800bcf51… (all of the seat's roots in one cut). By AI agents, Wed Nov 11 2026. No macro, syntax, notation, axiom, sorry.
-/
import Derived.Test.YtpeaicddbnghfaaGreatChecked
import GoSem.Claim
import GoSem.ClaimJoined
import GoSem.ClaimMapViews
import Derived.JoinedTies
import Derived.KernelRfl
namespace Go.Proofs.YtpeaicddbnghfaaGreat
/- THE CELL 'sum', in the pinned program and in every row, IS THE sha256 OF THE DUMP (.gsa) THAT YtpeaicddbnghfaaGreatProg.lean LOADS. Nothing in Lean hashes anything: it is a label: what it is worth is what the hold of that sum in a sandbox is worth. -/
noncomputable def Tryz.pinned : Pinned := { name := "ytpeaicddbnghfaagreat", sum := "b5288f2f800bcf51a474d53bc8f2b33fc5cb12b85410bb4f91db8c844cc22954", checked := Tryz.checked }
namespace Rows
def none {H : Type} : Left H := { results := [], args := [] }

/-- 'tomelaw14.AheadOpens': WHATEVER THE INPUT: true; the input reads as it did. -/
def aheadOpensSpec : ChangeSpec := { name := "aheadOpens", fn := fun _ => fun
  | [d1, d2] => { results := [.lit (.bool true)], args := [d1, d2] }
  | _ => none }
def aheadOpensRow : OpenClaim := { program := "ytpeaicddbnghfaagreat", sum := "b5288f2f800bcf51a474d53bc8f2b33fc5cb12b85410bb4f91db8c844cc22954", func := "tome/tomelaw14.AheadOpens", spec := "aheadOpens", inPlace := ["internal/bytealg.MakeNoZero"], unfollowed := true, recurses := true, apart := false }
def AheadOpensSaid : Prop := aheadOpensRow.holds Tryz.pinned (OpenSpec.ofChange aheadOpensSpec)

/-- ITS FALSE NEIGHBOUR: 'it returns false'. Refute it at one input. -/
def aheadOpensWrong : ChangeSpec := { name := "aheadOpens", fn := fun _ => fun
  | [d1, d2] => { results := [.lit (.bool false)], args := [d1, d2] }
  | _ => none }
def AheadOpensWrongFalsely : Prop := aheadOpensRow.holds Tryz.pinned (OpenSpec.ofChange aheadOpensWrong)

/-- 'tomelaw13.BackPlays': WHATEVER THE INPUT: true; the input reads as it did. -/
def backPlaysSpec : ChangeSpec := { name := "backPlays", fn := fun _ => fun
  | [d1, d2, d3] => { results := [.lit (.bool true)], args := [d1, d2, d3] }
  | _ => none }
def backPlaysRow : OpenClaim := { program := "ytpeaicddbnghfaagreat", sum := "b5288f2f800bcf51a474d53bc8f2b33fc5cb12b85410bb4f91db8c844cc22954", func := "tome/tomelaw13.BackPlays", spec := "backPlays", inPlace := ["internal/bytealg.MakeNoZero"], unfollowed := true, recurses := true, apart := false }
def BackPlaysSaid : Prop := backPlaysRow.holds Tryz.pinned (OpenSpec.ofChange backPlaysSpec)

/-- ITS FALSE NEIGHBOUR: 'it returns false'. Refute it at one input. -/
def backPlaysWrong : ChangeSpec := { name := "backPlays", fn := fun _ => fun
  | [d1, d2, d3] => { results := [.lit (.bool false)], args := [d1, d2, d3] }
  | _ => none }
def BackPlaysWrongFalsely : Prop := backPlaysRow.holds Tryz.pinned (OpenSpec.ofChange backPlaysWrong)

/-- 'tomelaw13.BackRooms': WHATEVER THE INPUT: true; the input reads as it did. -/
def backRoomsSpec : ChangeSpec := { name := "backRooms", fn := fun _ => fun
  | [d1, d2] => { results := [.lit (.bool true)], args := [d1, d2] }
  | _ => none }
def backRoomsRow : OpenClaim := { program := "ytpeaicddbnghfaagreat", sum := "b5288f2f800bcf51a474d53bc8f2b33fc5cb12b85410bb4f91db8c844cc22954", func := "tome/tomelaw13.BackRooms", spec := "backRooms", inPlace := ["internal/bytealg.MakeNoZero"], unfollowed := true, recurses := true, apart := false }
def BackRoomsSaid : Prop := backRoomsRow.holds Tryz.pinned (OpenSpec.ofChange backRoomsSpec)

/-- ITS FALSE NEIGHBOUR: 'it returns false'. Refute it at one input. -/
def backRoomsWrong : ChangeSpec := { name := "backRooms", fn := fun _ => fun
  | [d1, d2] => { results := [.lit (.bool false)], args := [d1, d2] }
  | _ => none }
def BackRoomsWrongFalsely : Prop := backRoomsRow.holds Tryz.pinned (OpenSpec.ofChange backRoomsWrong)

/-- 'tomelaw13.BackQuiet': WHATEVER THE INPUT: true; the input reads as it did. -/
def backQuietSpec : ChangeSpec := { name := "backQuiet", fn := fun _ => fun
  | [d1, d2] => { results := [.lit (.bool true)], args := [d1, d2] }
  | _ => none }
def backQuietRow : OpenClaim := { program := "ytpeaicddbnghfaagreat", sum := "b5288f2f800bcf51a474d53bc8f2b33fc5cb12b85410bb4f91db8c844cc22954", func := "tome/tomelaw13.BackQuiet", spec := "backQuiet", inPlace := ["internal/bytealg.MakeNoZero"], unfollowed := true, recurses := true, apart := false }
def BackQuietSaid : Prop := backQuietRow.holds Tryz.pinned (OpenSpec.ofChange backQuietSpec)

/-- ITS FALSE NEIGHBOUR: 'it returns false'. Refute it at one input. -/
def backQuietWrong : ChangeSpec := { name := "backQuiet", fn := fun _ => fun
  | [d1, d2] => { results := [.lit (.bool false)], args := [d1, d2] }
  | _ => none }
def BackQuietWrongFalsely : Prop := backQuietRow.holds Tryz.pinned (OpenSpec.ofChange backQuietWrong)

/-- 'tomelaw13.BackOpens': WHATEVER THE INPUT: true; the input reads as it did. -/
def backOpensSpec : ChangeSpec := { name := "backOpens", fn := fun _ => fun
  | [d1, d2] => { results := [.lit (.bool true)], args := [d1, d2] }
  | _ => none }
def backOpensRow : OpenClaim := { program := "ytpeaicddbnghfaagreat", sum := "b5288f2f800bcf51a474d53bc8f2b33fc5cb12b85410bb4f91db8c844cc22954", func := "tome/tomelaw13.BackOpens", spec := "backOpens", inPlace := ["internal/bytealg.MakeNoZero"], unfollowed := true, recurses := true, apart := false }
def BackOpensSaid : Prop := backOpensRow.holds Tryz.pinned (OpenSpec.ofChange backOpensSpec)

/-- ITS FALSE NEIGHBOUR: 'it returns false'. Refute it at one input. -/
def backOpensWrong : ChangeSpec := { name := "backOpens", fn := fun _ => fun
  | [d1, d2] => { results := [.lit (.bool false)], args := [d1, d2] }
  | _ => none }
def BackOpensWrongFalsely : Prop := backOpensRow.holds Tryz.pinned (OpenSpec.ofChange backOpensWrong)

/-- 'tomelaw14.AheadLogs': WHATEVER THE INPUT: true; the input reads as it did. -/
def aheadLogsSpec : ChangeSpec := { name := "aheadLogs", fn := fun _ => fun
  | [d1, d2] => { results := [.lit (.bool true)], args := [d1, d2] }
  | _ => none }
def aheadLogsRow : OpenClaim := { program := "ytpeaicddbnghfaagreat", sum := "b5288f2f800bcf51a474d53bc8f2b33fc5cb12b85410bb4f91db8c844cc22954", func := "tome/tomelaw14.AheadLogs", spec := "aheadLogs", inPlace := ["internal/bytealg.MakeNoZero"], unfollowed := true, recurses := true, apart := false }
def AheadLogsSaid : Prop := aheadLogsRow.holds Tryz.pinned (OpenSpec.ofChange aheadLogsSpec)

/-- ITS FALSE NEIGHBOUR: 'it returns false'. Refute it at one input. -/
def aheadLogsWrong : ChangeSpec := { name := "aheadLogs", fn := fun _ => fun
  | [d1, d2] => { results := [.lit (.bool false)], args := [d1, d2] }
  | _ => none }
def AheadLogsWrongFalsely : Prop := aheadLogsRow.holds Tryz.pinned (OpenSpec.ofChange aheadLogsWrong)

/-- 'tomelaw14.AheadQuiet': WHATEVER THE INPUT: true; the input reads as it did. -/
def aheadQuietSpec : ChangeSpec := { name := "aheadQuiet", fn := fun _ => fun
  | [d1, d2, d3] => { results := [.lit (.bool true)], args := [d1, d2, d3] }
  | _ => none }
def aheadQuietRow : OpenClaim := { program := "ytpeaicddbnghfaagreat", sum := "b5288f2f800bcf51a474d53bc8f2b33fc5cb12b85410bb4f91db8c844cc22954", func := "tome/tomelaw14.AheadQuiet", spec := "aheadQuiet", inPlace := ["internal/bytealg.MakeNoZero"], unfollowed := true, recurses := true, apart := false }
def AheadQuietSaid : Prop := aheadQuietRow.holds Tryz.pinned (OpenSpec.ofChange aheadQuietSpec)

/-- ITS FALSE NEIGHBOUR: 'it returns false'. Refute it at one input. -/
def aheadQuietWrong : ChangeSpec := { name := "aheadQuiet", fn := fun _ => fun
  | [d1, d2, d3] => { results := [.lit (.bool false)], args := [d1, d2, d3] }
  | _ => none }
def AheadQuietWrongFalsely : Prop := aheadQuietRow.holds Tryz.pinned (OpenSpec.ofChange aheadQuietWrong)

/-- 'tomelaw14.AheadPlays': WHATEVER THE INPUT: true; the input reads as it did. -/
def aheadPlaysSpec : ChangeSpec := { name := "aheadPlays", fn := fun _ => fun
  | [d1, d2, d3] => { results := [.lit (.bool true)], args := [d1, d2, d3] }
  | _ => none }
def aheadPlaysRow : OpenClaim := { program := "ytpeaicddbnghfaagreat", sum := "b5288f2f800bcf51a474d53bc8f2b33fc5cb12b85410bb4f91db8c844cc22954", func := "tome/tomelaw14.AheadPlays", spec := "aheadPlays", inPlace := ["internal/bytealg.MakeNoZero"], unfollowed := true, recurses := true, apart := false }
def AheadPlaysSaid : Prop := aheadPlaysRow.holds Tryz.pinned (OpenSpec.ofChange aheadPlaysSpec)

/-- ITS FALSE NEIGHBOUR: 'it returns false'. Refute it at one input. -/
def aheadPlaysWrong : ChangeSpec := { name := "aheadPlays", fn := fun _ => fun
  | [d1, d2, d3] => { results := [.lit (.bool false)], args := [d1, d2, d3] }
  | _ => none }
def AheadPlaysWrongFalsely : Prop := aheadPlaysRow.holds Tryz.pinned (OpenSpec.ofChange aheadPlaysWrong)

/-- 'tomelaw13.BackPower': WHATEVER THE INPUT: true; the input reads as it did. -/
def backPowerSpec : ChangeSpec := { name := "backPower", fn := fun _ => fun
  | [d1, d2, d3] => { results := [.lit (.bool true)], args := [d1, d2, d3] }
  | _ => none }
def backPowerRow : OpenClaim := { program := "ytpeaicddbnghfaagreat", sum := "b5288f2f800bcf51a474d53bc8f2b33fc5cb12b85410bb4f91db8c844cc22954", func := "tome/tomelaw13.BackPower", spec := "backPower", inPlace := ["internal/bytealg.MakeNoZero"], unfollowed := true, recurses := true, apart := false }
def BackPowerSaid : Prop := backPowerRow.holds Tryz.pinned (OpenSpec.ofChange backPowerSpec)

/-- ITS FALSE NEIGHBOUR: 'it returns false'. Refute it at one input. -/
def backPowerWrong : ChangeSpec := { name := "backPower", fn := fun _ => fun
  | [d1, d2, d3] => { results := [.lit (.bool false)], args := [d1, d2, d3] }
  | _ => none }
def BackPowerWrongFalsely : Prop := backPowerRow.holds Tryz.pinned (OpenSpec.ofChange backPowerWrong)

/-- 'tomelaw14.AheadPower': WHATEVER THE INPUT: true; the input reads as it did. -/
def aheadPowerSpec : ChangeSpec := { name := "aheadPower", fn := fun _ => fun
  | [d1, d2, d3] => { results := [.lit (.bool true)], args := [d1, d2, d3] }
  | _ => none }
def aheadPowerRow : OpenClaim := { program := "ytpeaicddbnghfaagreat", sum := "b5288f2f800bcf51a474d53bc8f2b33fc5cb12b85410bb4f91db8c844cc22954", func := "tome/tomelaw14.AheadPower", spec := "aheadPower", inPlace := ["internal/bytealg.MakeNoZero"], unfollowed := true, recurses := true, apart := false }
def AheadPowerSaid : Prop := aheadPowerRow.holds Tryz.pinned (OpenSpec.ofChange aheadPowerSpec)

/-- ITS FALSE NEIGHBOUR: 'it returns false'. Refute it at one input. -/
def aheadPowerWrong : ChangeSpec := { name := "aheadPower", fn := fun _ => fun
  | [d1, d2, d3] => { results := [.lit (.bool false)], args := [d1, d2, d3] }
  | _ => none }
def AheadPowerWrongFalsely : Prop := aheadPowerRow.holds Tryz.pinned (OpenSpec.ofChange aheadPowerWrong)

/- THE SECOND FORM. 'bulk': how many values and letters a reading holds, each counted each time it is reached (what is shared counts as often as it is met; a slice's spare places count too). A statement '..UptoSaid' is the law's where the arguments, and the package variables that the reading takes, are together of bulk at most 1048576: NARROWER than '..Said'. Prove '..Said' where nothing that the law and all that it calls make is longer than what came in: it says more and counts as full. Else prove '..UptoSaid'. A law counts once. -/
mutual
def uptoBulk {H : Type} : DataW H → Nat
  | .lit (.string bytes) => bytes.length + 1
  | .lit _ => 1
  | .nil => 1
  | .ptr d => uptoBulk d + 1
  | .slice elems spare => uptoBulkAll elems + uptoBulkAll spare + 1
  | .agg parts => uptoBulkAll parts + 1
  | .iface _ d => uptoBulk d + 1
  | .map entries => uptoBulkEntries entries + 1
  | .held _ => 1
def uptoBulkAll {H : Type} : List (DataW H) → Nat
  | [] => 0
  | d :: r => uptoBulk d + uptoBulkAll r
def uptoBulkEntries {H : Type} : List (Lit × DataW H) → Nat
  | [] => 0
  | x :: r => uptoBulkEntry x + uptoBulkEntries r
def uptoBulkEntry {H : Type} : Lit × DataW H → Nat
  | (.string bytes, d) => bytes.length + uptoBulk d + 1
  | (_, d) => uptoBulk d + 1
 end
def uptoSmall : (H : Type) → List (DataW H) → Bool := fun _ ds => decide (uptoBulkAll ds ≤ 1048576)
def OpenSpec.upto (s : _root_.Go.ChangeSpec) : _root_.Go.OpenSpec := { _root_.Go.OpenSpec.ofChange s with cond := some uptoSmall }

/-- 'tomelaw14.AheadOpens', WHERE WHAT IT READS IS OF BULK AT MOST 1048576: true; the input reads as it did. -/
def aheadOpensUptoRow : OpenClaim := { program := "ytpeaicddbnghfaagreat", sum := "b5288f2f800bcf51a474d53bc8f2b33fc5cb12b85410bb4f91db8c844cc22954", func := "tome/tomelaw14.AheadOpens", spec := "aheadOpens", inPlace := ["internal/bytealg.MakeNoZero"], unfollowed := true, recurses := true, apart := false, narrowed := true }
def AheadOpensUptoSaid : Prop := aheadOpensUptoRow.holds Tryz.pinned (OpenSpec.upto aheadOpensSpec)

/-- 'tomelaw13.BackPlays', WHERE WHAT IT READS IS OF BULK AT MOST 1048576: true; the input reads as it did. -/
def backPlaysUptoRow : OpenClaim := { program := "ytpeaicddbnghfaagreat", sum := "b5288f2f800bcf51a474d53bc8f2b33fc5cb12b85410bb4f91db8c844cc22954", func := "tome/tomelaw13.BackPlays", spec := "backPlays", inPlace := ["internal/bytealg.MakeNoZero"], unfollowed := true, recurses := true, apart := false, narrowed := true }
def BackPlaysUptoSaid : Prop := backPlaysUptoRow.holds Tryz.pinned (OpenSpec.upto backPlaysSpec)

/-- 'tomelaw13.BackRooms', WHERE WHAT IT READS IS OF BULK AT MOST 1048576: true; the input reads as it did. -/
def backRoomsUptoRow : OpenClaim := { program := "ytpeaicddbnghfaagreat", sum := "b5288f2f800bcf51a474d53bc8f2b33fc5cb12b85410bb4f91db8c844cc22954", func := "tome/tomelaw13.BackRooms", spec := "backRooms", inPlace := ["internal/bytealg.MakeNoZero"], unfollowed := true, recurses := true, apart := false, narrowed := true }
def BackRoomsUptoSaid : Prop := backRoomsUptoRow.holds Tryz.pinned (OpenSpec.upto backRoomsSpec)

/-- 'tomelaw13.BackQuiet', WHERE WHAT IT READS IS OF BULK AT MOST 1048576: true; the input reads as it did. -/
def backQuietUptoRow : OpenClaim := { program := "ytpeaicddbnghfaagreat", sum := "b5288f2f800bcf51a474d53bc8f2b33fc5cb12b85410bb4f91db8c844cc22954", func := "tome/tomelaw13.BackQuiet", spec := "backQuiet", inPlace := ["internal/bytealg.MakeNoZero"], unfollowed := true, recurses := true, apart := false, narrowed := true }
def BackQuietUptoSaid : Prop := backQuietUptoRow.holds Tryz.pinned (OpenSpec.upto backQuietSpec)

/-- 'tomelaw13.BackOpens', WHERE WHAT IT READS IS OF BULK AT MOST 1048576: true; the input reads as it did. -/
def backOpensUptoRow : OpenClaim := { program := "ytpeaicddbnghfaagreat", sum := "b5288f2f800bcf51a474d53bc8f2b33fc5cb12b85410bb4f91db8c844cc22954", func := "tome/tomelaw13.BackOpens", spec := "backOpens", inPlace := ["internal/bytealg.MakeNoZero"], unfollowed := true, recurses := true, apart := false, narrowed := true }
def BackOpensUptoSaid : Prop := backOpensUptoRow.holds Tryz.pinned (OpenSpec.upto backOpensSpec)

/-- 'tomelaw14.AheadLogs', WHERE WHAT IT READS IS OF BULK AT MOST 1048576: true; the input reads as it did. -/
def aheadLogsUptoRow : OpenClaim := { program := "ytpeaicddbnghfaagreat", sum := "b5288f2f800bcf51a474d53bc8f2b33fc5cb12b85410bb4f91db8c844cc22954", func := "tome/tomelaw14.AheadLogs", spec := "aheadLogs", inPlace := ["internal/bytealg.MakeNoZero"], unfollowed := true, recurses := true, apart := false, narrowed := true }
def AheadLogsUptoSaid : Prop := aheadLogsUptoRow.holds Tryz.pinned (OpenSpec.upto aheadLogsSpec)

/-- 'tomelaw14.AheadQuiet', WHERE WHAT IT READS IS OF BULK AT MOST 1048576: true; the input reads as it did. -/
def aheadQuietUptoRow : OpenClaim := { program := "ytpeaicddbnghfaagreat", sum := "b5288f2f800bcf51a474d53bc8f2b33fc5cb12b85410bb4f91db8c844cc22954", func := "tome/tomelaw14.AheadQuiet", spec := "aheadQuiet", inPlace := ["internal/bytealg.MakeNoZero"], unfollowed := true, recurses := true, apart := false, narrowed := true }
def AheadQuietUptoSaid : Prop := aheadQuietUptoRow.holds Tryz.pinned (OpenSpec.upto aheadQuietSpec)

/-- 'tomelaw14.AheadPlays', WHERE WHAT IT READS IS OF BULK AT MOST 1048576: true; the input reads as it did. -/
def aheadPlaysUptoRow : OpenClaim := { program := "ytpeaicddbnghfaagreat", sum := "b5288f2f800bcf51a474d53bc8f2b33fc5cb12b85410bb4f91db8c844cc22954", func := "tome/tomelaw14.AheadPlays", spec := "aheadPlays", inPlace := ["internal/bytealg.MakeNoZero"], unfollowed := true, recurses := true, apart := false, narrowed := true }
def AheadPlaysUptoSaid : Prop := aheadPlaysUptoRow.holds Tryz.pinned (OpenSpec.upto aheadPlaysSpec)

/-- 'tomelaw13.BackPower', WHERE WHAT IT READS IS OF BULK AT MOST 1048576: true; the input reads as it did. -/
def backPowerUptoRow : OpenClaim := { program := "ytpeaicddbnghfaagreat", sum := "b5288f2f800bcf51a474d53bc8f2b33fc5cb12b85410bb4f91db8c844cc22954", func := "tome/tomelaw13.BackPower", spec := "backPower", inPlace := ["internal/bytealg.MakeNoZero"], unfollowed := true, recurses := true, apart := false, narrowed := true }
def BackPowerUptoSaid : Prop := backPowerUptoRow.holds Tryz.pinned (OpenSpec.upto backPowerSpec)

/-- 'tomelaw14.AheadPower', WHERE WHAT IT READS IS OF BULK AT MOST 1048576: true; the input reads as it did. -/
def aheadPowerUptoRow : OpenClaim := { program := "ytpeaicddbnghfaagreat", sum := "b5288f2f800bcf51a474d53bc8f2b33fc5cb12b85410bb4f91db8c844cc22954", func := "tome/tomelaw14.AheadPower", spec := "aheadPower", inPlace := ["internal/bytealg.MakeNoZero"], unfollowed := true, recurses := true, apart := false, narrowed := true }
def AheadPowerUptoSaid : Prop := aheadPowerUptoRow.holds Tryz.pinned (OpenSpec.upto aheadPowerSpec)

end Rows
end Go.Proofs.YtpeaicddbnghfaaGreat
