/-
  No cell of these rows narrows 'for every input' (looked for: loops, veiled, ifaces, maps, wideKeys, modest, calm, conditions, laid).
  DERIVED. THE GIVEN ROWS OF THIS SEAT. 11 by the template 'for every input the law returns true; each argument reads behind the call as it read before'; 0 by the template 'total and deterministic' (their statements: YtndlpekckpdncaaGreatTotals.lean).
  GIVEN WITH THE SEED: the statements are not yours to turn. If you find one false, say at which input.
  Laid BY PROGRAM, IN A SANDBOX (cutbox-rows.mjs): the forced cells as the released guide's own fill.sh prints them over the translation b05d09273ff9e174… (all of the seat's roots in one cut). By AI agents, Wed Nov 11 2026. No macro, syntax, notation, axiom, sorry.
-/
import Derived.Test.YtndlpekckpdncaaGreatChecked
import GoSem.Claim
import GoSem.ClaimJoined
import GoSem.ClaimMapViews
import Derived.JoinedTies
import Derived.KernelRfl
namespace Go.Proofs.YtndlpekckpdncaaGreat
/- THE CELL 'sum', in the pinned program and in every row, IS THE sha256 OF THE DUMP (.gsa) THAT YtndlpekckpdncaaGreatProg.lean LOADS. Nothing in Lean hashes anything: it is a label: what it is worth is what the hold of that sum in a sandbox is worth. -/
noncomputable def Tryz.pinned : Pinned := { name := "ytndlpekckpdncaagreat", sum := "b05d09273ff9e17410ee1adff6b2902d57cc7cf87a787ea8e1353e6aa55ce437", checked := Tryz.checked }
namespace Rows
def none {H : Type} : Left H := { results := [], args := [] }

/-- 'tomelaw16.FreeOwn': WHATEVER THE INPUT: true; the input reads as it did. -/
def freeOwnSpec : ChangeSpec := { name := "freeOwn", fn := fun _ => fun
  | [d1, d2, d3] => { results := [.lit (.bool true)], args := [d1, d2, d3] }
  | _ => none }
def freeOwnRow : OpenClaim := { program := "ytndlpekckpdncaagreat", sum := "b05d09273ff9e17410ee1adff6b2902d57cc7cf87a787ea8e1353e6aa55ce437", func := "tome/tomelaw16.FreeOwn", spec := "freeOwn", inPlace := ["internal/bytealg.MakeNoZero"], unfollowed := true, recurses := true, apart := false }
def FreeOwnSaid : Prop := freeOwnRow.holds Tryz.pinned (OpenSpec.ofChange freeOwnSpec)

/-- ITS FALSE NEIGHBOUR: 'it returns false'. Refute it at one input. -/
def freeOwnWrong : ChangeSpec := { name := "freeOwn", fn := fun _ => fun
  | [d1, d2, d3] => { results := [.lit (.bool false)], args := [d1, d2, d3] }
  | _ => none }
def FreeOwnWrongFalsely : Prop := freeOwnRow.holds Tryz.pinned (OpenSpec.ofChange freeOwnWrong)

/-- 'tomelaw16.FreeNobody': WHATEVER THE INPUT: true; the input reads as it did. -/
def freeNobodySpec : ChangeSpec := { name := "freeNobody", fn := fun _ => fun
  | [d] => { results := [.lit (.bool true)], args := [d] }
  | _ => none }
def freeNobodyRow : OpenClaim := { program := "ytndlpekckpdncaagreat", sum := "b05d09273ff9e17410ee1adff6b2902d57cc7cf87a787ea8e1353e6aa55ce437", func := "tome/tomelaw16.FreeNobody", spec := "freeNobody", inPlace := ["internal/bytealg.MakeNoZero"], unfollowed := true, recurses := true, apart := false }
def FreeNobodySaid : Prop := freeNobodyRow.holds Tryz.pinned (OpenSpec.ofChange freeNobodySpec)

/-- ITS FALSE NEIGHBOUR: 'it returns false'. Refute it at one input. -/
def freeNobodyWrong : ChangeSpec := { name := "freeNobody", fn := fun _ => fun
  | [d] => { results := [.lit (.bool false)], args := [d] }
  | _ => none }
def FreeNobodyWrongFalsely : Prop := freeNobodyRow.holds Tryz.pinned (OpenSpec.ofChange freeNobodyWrong)

/-- 'tomelaw17.SpillLocal': WHATEVER THE INPUT: true; the input reads as it did. -/
def spillLocalSpec : ChangeSpec := { name := "spillLocal", fn := fun _ => fun
  | [d1, d2] => { results := [.lit (.bool true)], args := [d1, d2] }
  | _ => none }
def spillLocalRow : OpenClaim := { program := "ytndlpekckpdncaagreat", sum := "b05d09273ff9e17410ee1adff6b2902d57cc7cf87a787ea8e1353e6aa55ce437", func := "tome/tomelaw17.SpillLocal", spec := "spillLocal", inPlace := ["internal/bytealg.MakeNoZero"], unfollowed := true, recurses := true, apart := false }
def SpillLocalSaid : Prop := spillLocalRow.holds Tryz.pinned (OpenSpec.ofChange spillLocalSpec)

/-- ITS FALSE NEIGHBOUR: 'it returns false'. Refute it at one input. -/
def spillLocalWrong : ChangeSpec := { name := "spillLocal", fn := fun _ => fun
  | [d1, d2] => { results := [.lit (.bool false)], args := [d1, d2] }
  | _ => none }
def SpillLocalWrongFalsely : Prop := spillLocalRow.holds Tryz.pinned (OpenSpec.ofChange spillLocalWrong)

/-- 'tomelaw17.SpillReads': WHATEVER THE INPUT: true; the input reads as it did. -/
def spillReadsSpec : ChangeSpec := { name := "spillReads", fn := fun _ => fun
  | [d1, d2, d3, d4] => { results := [.lit (.bool true)], args := [d1, d2, d3, d4] }
  | _ => none }
def spillReadsRow : OpenClaim := { program := "ytndlpekckpdncaagreat", sum := "b05d09273ff9e17410ee1adff6b2902d57cc7cf87a787ea8e1353e6aa55ce437", func := "tome/tomelaw17.SpillReads", spec := "spillReads", inPlace := ["internal/bytealg.MakeNoZero"], unfollowed := true, recurses := true, apart := false }
def SpillReadsSaid : Prop := spillReadsRow.holds Tryz.pinned (OpenSpec.ofChange spillReadsSpec)

/-- ITS FALSE NEIGHBOUR: 'it returns false'. Refute it at one input. -/
def spillReadsWrong : ChangeSpec := { name := "spillReads", fn := fun _ => fun
  | [d1, d2, d3, d4] => { results := [.lit (.bool false)], args := [d1, d2, d3, d4] }
  | _ => none }
def SpillReadsWrongFalsely : Prop := spillReadsRow.holds Tryz.pinned (OpenSpec.ofChange spillReadsWrong)

/-- 'tomelaw15.StorePlays': WHATEVER THE INPUT: true; the input reads as it did. -/
def storePlaysSpec : ChangeSpec := { name := "storePlays", fn := fun _ => fun
  | [d1, d2] => { results := [.lit (.bool true)], args := [d1, d2] }
  | _ => none }
def storePlaysRow : OpenClaim := { program := "ytndlpekckpdncaagreat", sum := "b05d09273ff9e17410ee1adff6b2902d57cc7cf87a787ea8e1353e6aa55ce437", func := "tome/tomelaw15.StorePlays", spec := "storePlays", inPlace := ["internal/bytealg.MakeNoZero", "maps.clone"], unfollowed := true, recurses := true, apart := false }
def StorePlaysSaid : Prop := storePlaysRow.holds Tryz.pinned (OpenSpec.ofChange storePlaysSpec)

/-- ITS FALSE NEIGHBOUR: 'it returns false'. Refute it at one input. -/
def storePlaysWrong : ChangeSpec := { name := "storePlays", fn := fun _ => fun
  | [d1, d2] => { results := [.lit (.bool false)], args := [d1, d2] }
  | _ => none }
def StorePlaysWrongFalsely : Prop := storePlaysRow.holds Tryz.pinned (OpenSpec.ofChange storePlaysWrong)

/-- 'tomelaw15.StoreEither': WHATEVER THE INPUT: true; the input reads as it did. -/
def storeEitherSpec : ChangeSpec := { name := "storeEither", fn := fun _ => fun
  | [d1, d2, d3, d4] => { results := [.lit (.bool true)], args := [d1, d2, d3, d4] }
  | _ => none }
def storeEitherRow : OpenClaim := { program := "ytndlpekckpdncaagreat", sum := "b05d09273ff9e17410ee1adff6b2902d57cc7cf87a787ea8e1353e6aa55ce437", func := "tome/tomelaw15.StoreEither", spec := "storeEither", inPlace := ["internal/bytealg.MakeNoZero", "maps.clone"], unfollowed := true, recurses := true, apart := false }
def StoreEitherSaid : Prop := storeEitherRow.holds Tryz.pinned (OpenSpec.ofChange storeEitherSpec)

/-- ITS FALSE NEIGHBOUR: 'it returns false'. Refute it at one input. -/
def storeEitherWrong : ChangeSpec := { name := "storeEither", fn := fun _ => fun
  | [d1, d2, d3, d4] => { results := [.lit (.bool false)], args := [d1, d2, d3, d4] }
  | _ => none }
def StoreEitherWrongFalsely : Prop := storeEitherRow.holds Tryz.pinned (OpenSpec.ofChange storeEitherWrong)

/-- 'tomelaw15.StoreBack': WHATEVER THE INPUT: true; the input reads as it did. -/
def storeBackSpec : ChangeSpec := { name := "storeBack", fn := fun _ => fun
  | [d1, d2, d3] => { results := [.lit (.bool true)], args := [d1, d2, d3] }
  | _ => none }
def storeBackRow : OpenClaim := { program := "ytndlpekckpdncaagreat", sum := "b05d09273ff9e17410ee1adff6b2902d57cc7cf87a787ea8e1353e6aa55ce437", func := "tome/tomelaw15.StoreBack", spec := "storeBack", inPlace := ["internal/bytealg.MakeNoZero", "maps.clone"], unfollowed := true, recurses := true, apart := false }
def StoreBackSaid : Prop := storeBackRow.holds Tryz.pinned (OpenSpec.ofChange storeBackSpec)

/-- ITS FALSE NEIGHBOUR: 'it returns false'. Refute it at one input. -/
def storeBackWrong : ChangeSpec := { name := "storeBack", fn := fun _ => fun
  | [d1, d2, d3] => { results := [.lit (.bool false)], args := [d1, d2, d3] }
  | _ => none }
def StoreBackWrongFalsely : Prop := storeBackRow.holds Tryz.pinned (OpenSpec.ofChange storeBackWrong)

/-- 'tomelaw15.StoreNobody': WHATEVER THE INPUT: true; the input reads as it did. -/
def storeNobodySpec : ChangeSpec := { name := "storeNobody", fn := fun _ => fun
  | [d1, d2] => { results := [.lit (.bool true)], args := [d1, d2] }
  | _ => none }
def storeNobodyRow : OpenClaim := { program := "ytndlpekckpdncaagreat", sum := "b05d09273ff9e17410ee1adff6b2902d57cc7cf87a787ea8e1353e6aa55ce437", func := "tome/tomelaw15.StoreNobody", spec := "storeNobody", inPlace := ["internal/bytealg.MakeNoZero", "maps.clone"], unfollowed := true, recurses := true, apart := false }
def StoreNobodySaid : Prop := storeNobodyRow.holds Tryz.pinned (OpenSpec.ofChange storeNobodySpec)

/-- ITS FALSE NEIGHBOUR: 'it returns false'. Refute it at one input. -/
def storeNobodyWrong : ChangeSpec := { name := "storeNobody", fn := fun _ => fun
  | [d1, d2] => { results := [.lit (.bool false)], args := [d1, d2] }
  | _ => none }
def StoreNobodyWrongFalsely : Prop := storeNobodyRow.holds Tryz.pinned (OpenSpec.ofChange storeNobodyWrong)

/-- 'tomelaw15.StorePower': WHATEVER THE INPUT: true; the input reads as it did. -/
def storePowerSpec : ChangeSpec := { name := "storePower", fn := fun _ => fun
  | [d1, d2, d3, d4] => { results := [.lit (.bool true)], args := [d1, d2, d3, d4] }
  | _ => none }
def storePowerRow : OpenClaim := { program := "ytndlpekckpdncaagreat", sum := "b05d09273ff9e17410ee1adff6b2902d57cc7cf87a787ea8e1353e6aa55ce437", func := "tome/tomelaw15.StorePower", spec := "storePower", inPlace := ["internal/bytealg.MakeNoZero", "maps.clone"], unfollowed := true, recurses := true, apart := false }
def StorePowerSaid : Prop := storePowerRow.holds Tryz.pinned (OpenSpec.ofChange storePowerSpec)

/-- ITS FALSE NEIGHBOUR: 'it returns false'. Refute it at one input. -/
def storePowerWrong : ChangeSpec := { name := "storePower", fn := fun _ => fun
  | [d1, d2, d3, d4] => { results := [.lit (.bool false)], args := [d1, d2, d3, d4] }
  | _ => none }
def StorePowerWrongFalsely : Prop := storePowerRow.holds Tryz.pinned (OpenSpec.ofChange storePowerWrong)

/-- 'tomelaw16.FreePlays': WHATEVER THE INPUT: true; the input reads as it did. -/
def freePlaysSpec : ChangeSpec := { name := "freePlays", fn := fun _ => fun
  | [d1, d2, d3] => { results := [.lit (.bool true)], args := [d1, d2, d3] }
  | _ => none }
def freePlaysRow : OpenClaim := { program := "ytndlpekckpdncaagreat", sum := "b05d09273ff9e17410ee1adff6b2902d57cc7cf87a787ea8e1353e6aa55ce437", func := "tome/tomelaw16.FreePlays", spec := "freePlays", inPlace := ["internal/bytealg.MakeNoZero"], unfollowed := true, recurses := true, apart := false }
def FreePlaysSaid : Prop := freePlaysRow.holds Tryz.pinned (OpenSpec.ofChange freePlaysSpec)

/-- ITS FALSE NEIGHBOUR: 'it returns false'. Refute it at one input. -/
def freePlaysWrong : ChangeSpec := { name := "freePlays", fn := fun _ => fun
  | [d1, d2, d3] => { results := [.lit (.bool false)], args := [d1, d2, d3] }
  | _ => none }
def FreePlaysWrongFalsely : Prop := freePlaysRow.holds Tryz.pinned (OpenSpec.ofChange freePlaysWrong)

/-- 'tomelaw17.SpillChains': WHATEVER THE INPUT: true; the input reads as it did. -/
def spillChainsSpec : ChangeSpec := { name := "spillChains", fn := fun _ => fun
  | [d1, d2] => { results := [.lit (.bool true)], args := [d1, d2] }
  | _ => none }
def spillChainsRow : OpenClaim := { program := "ytndlpekckpdncaagreat", sum := "b05d09273ff9e17410ee1adff6b2902d57cc7cf87a787ea8e1353e6aa55ce437", func := "tome/tomelaw17.SpillChains", spec := "spillChains", inPlace := ["internal/bytealg.MakeNoZero"], unfollowed := true, recurses := true, apart := false }
def SpillChainsSaid : Prop := spillChainsRow.holds Tryz.pinned (OpenSpec.ofChange spillChainsSpec)

/-- ITS FALSE NEIGHBOUR: 'it returns false'. Refute it at one input. -/
def spillChainsWrong : ChangeSpec := { name := "spillChains", fn := fun _ => fun
  | [d1, d2] => { results := [.lit (.bool false)], args := [d1, d2] }
  | _ => none }
def SpillChainsWrongFalsely : Prop := spillChainsRow.holds Tryz.pinned (OpenSpec.ofChange spillChainsWrong)

/- THE SECOND FORM. 'bulk': how many values and letters a reading holds, each counted each time it is reached (what is shared counts as often as it is met; a slice's spare places count too). A statement '..UptoSaid' is the law's where the arguments, and the package variables that the reading takes, are together of bulk at most 1048576: NARROWER than '..Said'. Prove '..Said' where nothing that the law and all that it calls make is longer than what came in: it says more and counts as full. Else prove '..UptoSaid'. A law counts once. -/
mutual
def uptoBulk {H : Type} : DataW H → Nat
  | .lit (.string bytes) => bytes.length + 1
  | .lit _ => 1
  | .nil => 1
  | .ptr d => uptoBulk d + 1
  | .slice elems spare => uptoBulkAll elems + uptoBulkAll spare + 1
  | .agg parts => uptoBulkAll parts + 1
  | .iface _ d => uptoBulk d + 1
  | .map entries => uptoBulkEntries entries + 1
  | .held _ => 1
def uptoBulkAll {H : Type} : List (DataW H) → Nat
  | [] => 0
  | d :: r => uptoBulk d + uptoBulkAll r
def uptoBulkEntries {H : Type} : List (Lit × DataW H) → Nat
  | [] => 0
  | x :: r => uptoBulkEntry x + uptoBulkEntries r
def uptoBulkEntry {H : Type} : Lit × DataW H → Nat
  | (.string bytes, d) => bytes.length + uptoBulk d + 1
  | (_, d) => uptoBulk d + 1
 end
def uptoSmall : (H : Type) → List (DataW H) → Bool := fun _ ds => decide (uptoBulkAll ds ≤ 1048576)
def OpenSpec.upto (s : _root_.Go.ChangeSpec) : _root_.Go.OpenSpec := { _root_.Go.OpenSpec.ofChange s with cond := some uptoSmall }

/-- 'tomelaw16.FreeOwn', WHERE WHAT IT READS IS OF BULK AT MOST 1048576: true; the input reads as it did. -/
def freeOwnUptoRow : OpenClaim := { program := "ytndlpekckpdncaagreat", sum := "b05d09273ff9e17410ee1adff6b2902d57cc7cf87a787ea8e1353e6aa55ce437", func := "tome/tomelaw16.FreeOwn", spec := "freeOwn", inPlace := ["internal/bytealg.MakeNoZero"], unfollowed := true, recurses := true, apart := false, narrowed := true }
def FreeOwnUptoSaid : Prop := freeOwnUptoRow.holds Tryz.pinned (OpenSpec.upto freeOwnSpec)

/-- 'tomelaw16.FreeNobody', WHERE WHAT IT READS IS OF BULK AT MOST 1048576: true; the input reads as it did. -/
def freeNobodyUptoRow : OpenClaim := { program := "ytndlpekckpdncaagreat", sum := "b05d09273ff9e17410ee1adff6b2902d57cc7cf87a787ea8e1353e6aa55ce437", func := "tome/tomelaw16.FreeNobody", spec := "freeNobody", inPlace := ["internal/bytealg.MakeNoZero"], unfollowed := true, recurses := true, apart := false, narrowed := true }
def FreeNobodyUptoSaid : Prop := freeNobodyUptoRow.holds Tryz.pinned (OpenSpec.upto freeNobodySpec)

/-- 'tomelaw17.SpillLocal', WHERE WHAT IT READS IS OF BULK AT MOST 1048576: true; the input reads as it did. -/
def spillLocalUptoRow : OpenClaim := { program := "ytndlpekckpdncaagreat", sum := "b05d09273ff9e17410ee1adff6b2902d57cc7cf87a787ea8e1353e6aa55ce437", func := "tome/tomelaw17.SpillLocal", spec := "spillLocal", inPlace := ["internal/bytealg.MakeNoZero"], unfollowed := true, recurses := true, apart := false, narrowed := true }
def SpillLocalUptoSaid : Prop := spillLocalUptoRow.holds Tryz.pinned (OpenSpec.upto spillLocalSpec)

/-- 'tomelaw17.SpillReads', WHERE WHAT IT READS IS OF BULK AT MOST 1048576: true; the input reads as it did. -/
def spillReadsUptoRow : OpenClaim := { program := "ytndlpekckpdncaagreat", sum := "b05d09273ff9e17410ee1adff6b2902d57cc7cf87a787ea8e1353e6aa55ce437", func := "tome/tomelaw17.SpillReads", spec := "spillReads", inPlace := ["internal/bytealg.MakeNoZero"], unfollowed := true, recurses := true, apart := false, narrowed := true }
def SpillReadsUptoSaid : Prop := spillReadsUptoRow.holds Tryz.pinned (OpenSpec.upto spillReadsSpec)

/-- 'tomelaw15.StorePlays', WHERE WHAT IT READS IS OF BULK AT MOST 1048576: true; the input reads as it did. -/
def storePlaysUptoRow : OpenClaim := { program := "ytndlpekckpdncaagreat", sum := "b05d09273ff9e17410ee1adff6b2902d57cc7cf87a787ea8e1353e6aa55ce437", func := "tome/tomelaw15.StorePlays", spec := "storePlays", inPlace := ["internal/bytealg.MakeNoZero", "maps.clone"], unfollowed := true, recurses := true, apart := false, narrowed := true }
def StorePlaysUptoSaid : Prop := storePlaysUptoRow.holds Tryz.pinned (OpenSpec.upto storePlaysSpec)

/-- 'tomelaw15.StoreEither', WHERE WHAT IT READS IS OF BULK AT MOST 1048576: true; the input reads as it did. -/
def storeEitherUptoRow : OpenClaim := { program := "ytndlpekckpdncaagreat", sum := "b05d09273ff9e17410ee1adff6b2902d57cc7cf87a787ea8e1353e6aa55ce437", func := "tome/tomelaw15.StoreEither", spec := "storeEither", inPlace := ["internal/bytealg.MakeNoZero", "maps.clone"], unfollowed := true, recurses := true, apart := false, narrowed := true }
def StoreEitherUptoSaid : Prop := storeEitherUptoRow.holds Tryz.pinned (OpenSpec.upto storeEitherSpec)

/-- 'tomelaw15.StoreBack', WHERE WHAT IT READS IS OF BULK AT MOST 1048576: true; the input reads as it did. -/
def storeBackUptoRow : OpenClaim := { program := "ytndlpekckpdncaagreat", sum := "b05d09273ff9e17410ee1adff6b2902d57cc7cf87a787ea8e1353e6aa55ce437", func := "tome/tomelaw15.StoreBack", spec := "storeBack", inPlace := ["internal/bytealg.MakeNoZero", "maps.clone"], unfollowed := true, recurses := true, apart := false, narrowed := true }
def StoreBackUptoSaid : Prop := storeBackUptoRow.holds Tryz.pinned (OpenSpec.upto storeBackSpec)

/-- 'tomelaw15.StoreNobody', WHERE WHAT IT READS IS OF BULK AT MOST 1048576: true; the input reads as it did. -/
def storeNobodyUptoRow : OpenClaim := { program := "ytndlpekckpdncaagreat", sum := "b05d09273ff9e17410ee1adff6b2902d57cc7cf87a787ea8e1353e6aa55ce437", func := "tome/tomelaw15.StoreNobody", spec := "storeNobody", inPlace := ["internal/bytealg.MakeNoZero", "maps.clone"], unfollowed := true, recurses := true, apart := false, narrowed := true }
def StoreNobodyUptoSaid : Prop := storeNobodyUptoRow.holds Tryz.pinned (OpenSpec.upto storeNobodySpec)

/-- 'tomelaw15.StorePower', WHERE WHAT IT READS IS OF BULK AT MOST 1048576: true; the input reads as it did. -/
def storePowerUptoRow : OpenClaim := { program := "ytndlpekckpdncaagreat", sum := "b05d09273ff9e17410ee1adff6b2902d57cc7cf87a787ea8e1353e6aa55ce437", func := "tome/tomelaw15.StorePower", spec := "storePower", inPlace := ["internal/bytealg.MakeNoZero", "maps.clone"], unfollowed := true, recurses := true, apart := false, narrowed := true }
def StorePowerUptoSaid : Prop := storePowerUptoRow.holds Tryz.pinned (OpenSpec.upto storePowerSpec)

/-- 'tomelaw16.FreePlays', WHERE WHAT IT READS IS OF BULK AT MOST 1048576: true; the input reads as it did. -/
def freePlaysUptoRow : OpenClaim := { program := "ytndlpekckpdncaagreat", sum := "b05d09273ff9e17410ee1adff6b2902d57cc7cf87a787ea8e1353e6aa55ce437", func := "tome/tomelaw16.FreePlays", spec := "freePlays", inPlace := ["internal/bytealg.MakeNoZero"], unfollowed := true, recurses := true, apart := false, narrowed := true }
def FreePlaysUptoSaid : Prop := freePlaysUptoRow.holds Tryz.pinned (OpenSpec.upto freePlaysSpec)

/-- 'tomelaw17.SpillChains', WHERE WHAT IT READS IS OF BULK AT MOST 1048576: true; the input reads as it did. -/
def spillChainsUptoRow : OpenClaim := { program := "ytndlpekckpdncaagreat", sum := "b05d09273ff9e17410ee1adff6b2902d57cc7cf87a787ea8e1353e6aa55ce437", func := "tome/tomelaw17.SpillChains", spec := "spillChains", inPlace := ["internal/bytealg.MakeNoZero"], unfollowed := true, recurses := true, apart := false, narrowed := true }
def SpillChainsUptoSaid : Prop := spillChainsUptoRow.holds Tryz.pinned (OpenSpec.upto spillChainsSpec)

end Rows
end Go.Proofs.YtndlpekckpdncaaGreat
