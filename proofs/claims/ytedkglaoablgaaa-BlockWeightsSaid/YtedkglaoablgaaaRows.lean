/-
  No cell of these rows narrows 'for every input' (looked for: loops, veiled, ifaces, maps, wideKeys, modest, calm, conditions, laid).
  DERIVED. THE GIVEN ROWS OF THIS SEAT. 8 by the template 'for every input the law returns true; each argument reads behind the call as it read before'; 0 by the template 'total and deterministic' (their statements: YtedkglaoablgaaaTotals.lean).
  GIVEN WITH THE SEED: the statements are not yours to turn. If you find one false, say at which input.
  Laid BY PROGRAM, IN A SANDBOX (cutbox-rows.mjs): the forced cells as the released guide's own fill.sh prints them over the translation f69c5d31d25f2381… (all of the seat's roots in one cut). By AI agents, Wed Nov 11 2026. No macro, syntax, notation, axiom, sorry.
-/
import Derived.Test.YtedkglaoablgaaaChecked
import GoSem.Claim
import GoSem.ClaimJoined
import GoSem.ClaimMapViews
import Derived.JoinedTies
import Derived.KernelRfl
namespace Go.Proofs.Ytedkglaoablgaaa
/- THE CELL 'sum', in the pinned program and in every row, IS THE sha256 OF THE DUMP (.gsa) THAT YtedkglaoablgaaaProg.lean LOADS. Nothing in Lean hashes anything: it is a label: what it is worth is what the hold of that sum in a sandbox is worth. -/
noncomputable def Try.pinned : Pinned := { name := "ytedkglaoablgaaa", sum := "f69c5d31d25f238146da9ce5ff3c1ee34e61e21498e238239e43f6e4301d43f0", checked := Try.checked }
namespace Rows
def none {H : Type} : Left H := { results := [], args := [] }

/-- 'bindlelaw36.ReaderParts': WHATEVER THE INPUT: true; the input reads as it did. -/
def readerPartsSpec : ChangeSpec := { name := "readerParts", fn := fun _ => fun
  | [d1, d2] => { results := [.lit (.bool true)], args := [d1, d2] }
  | _ => none }
def readerPartsRow : OpenClaim := { program := "ytedkglaoablgaaa", sum := "f69c5d31d25f238146da9ce5ff3c1ee34e61e21498e238239e43f6e4301d43f0", func := "bindle/bindlelaw36.ReaderParts", spec := "readerParts", unfollowed := true, recurses := true, apart := false }
def ReaderPartsSaid : Prop := readerPartsRow.holds Try.pinned (OpenSpec.ofChange readerPartsSpec)

/-- ITS FALSE NEIGHBOUR: 'it returns false'. Refute it at one input. -/
def readerPartsWrong : ChangeSpec := { name := "readerParts", fn := fun _ => fun
  | [d1, d2] => { results := [.lit (.bool false)], args := [d1, d2] }
  | _ => none }
def ReaderPartsWrongFalsely : Prop := readerPartsRow.holds Try.pinned (OpenSpec.ofChange readerPartsWrong)

/-- 'bindlelaw36.ReaderAll': WHATEVER THE INPUT: true; the input reads as it did. -/
def readerAllSpec : ChangeSpec := { name := "readerAll", fn := fun _ => fun
  | [d1, d2, d3] => { results := [.lit (.bool true)], args := [d1, d2, d3] }
  | _ => none }
def readerAllRow : OpenClaim := { program := "ytedkglaoablgaaa", sum := "f69c5d31d25f238146da9ce5ff3c1ee34e61e21498e238239e43f6e4301d43f0", func := "bindle/bindlelaw36.ReaderAll", spec := "readerAll", unfollowed := true, recurses := true, apart := false }
def ReaderAllSaid : Prop := readerAllRow.holds Try.pinned (OpenSpec.ofChange readerAllSpec)

/-- ITS FALSE NEIGHBOUR: 'it returns false'. Refute it at one input. -/
def readerAllWrong : ChangeSpec := { name := "readerAll", fn := fun _ => fun
  | [d1, d2, d3] => { results := [.lit (.bool false)], args := [d1, d2, d3] }
  | _ => none }
def ReaderAllWrongFalsely : Prop := readerAllRow.holds Try.pinned (OpenSpec.ofChange readerAllWrong)

/-- 'bindlelaw36.ReaderWholes': WHATEVER THE INPUT: true; the input reads as it did. -/
def readerWholesSpec : ChangeSpec := { name := "readerWholes", fn := fun _ => fun
  | [d1, d2] => { results := [.lit (.bool true)], args := [d1, d2] }
  | _ => none }
def readerWholesRow : OpenClaim := { program := "ytedkglaoablgaaa", sum := "f69c5d31d25f238146da9ce5ff3c1ee34e61e21498e238239e43f6e4301d43f0", func := "bindle/bindlelaw36.ReaderWholes", spec := "readerWholes", unfollowed := true, recurses := true, apart := false }
def ReaderWholesSaid : Prop := readerWholesRow.holds Try.pinned (OpenSpec.ofChange readerWholesSpec)

/-- ITS FALSE NEIGHBOUR: 'it returns false'. Refute it at one input. -/
def readerWholesWrong : ChangeSpec := { name := "readerWholes", fn := fun _ => fun
  | [d1, d2] => { results := [.lit (.bool false)], args := [d1, d2] }
  | _ => none }
def ReaderWholesWrongFalsely : Prop := readerWholesRow.holds Try.pinned (OpenSpec.ofChange readerWholesWrong)

/-- 'bindlelaw36.ReaderPart': WHATEVER THE INPUT: true; the input reads as it did. -/
def readerPartSpec : ChangeSpec := { name := "readerPart", fn := fun _ => fun
  | [d1, d2, d3] => { results := [.lit (.bool true)], args := [d1, d2, d3] }
  | _ => none }
def readerPartRow : OpenClaim := { program := "ytedkglaoablgaaa", sum := "f69c5d31d25f238146da9ce5ff3c1ee34e61e21498e238239e43f6e4301d43f0", func := "bindle/bindlelaw36.ReaderPart", spec := "readerPart", unfollowed := true, recurses := true, apart := false }
def ReaderPartSaid : Prop := readerPartRow.holds Try.pinned (OpenSpec.ofChange readerPartSpec)

/-- ITS FALSE NEIGHBOUR: 'it returns false'. Refute it at one input. -/
def readerPartWrong : ChangeSpec := { name := "readerPart", fn := fun _ => fun
  | [d1, d2, d3] => { results := [.lit (.bool false)], args := [d1, d2, d3] }
  | _ => none }
def ReaderPartWrongFalsely : Prop := readerPartRow.holds Try.pinned (OpenSpec.ofChange readerPartWrong)

/-- 'bindlelaw14.CodecPacks': WHATEVER THE INPUT: true; the input reads as it did. -/
def codecPacksSpec : ChangeSpec := { name := "codecPacks", fn := fun _ => fun
  | [d1, d2] => { results := [.lit (.bool true)], args := [d1, d2] }
  | _ => none }
def codecPacksRow : OpenClaim := { program := "ytedkglaoablgaaa", sum := "f69c5d31d25f238146da9ce5ff3c1ee34e61e21498e238239e43f6e4301d43f0", func := "bindle/bindlelaw14.CodecPacks", spec := "codecPacks", unfollowed := true, recurses := true, apart := false }
def CodecPacksSaid : Prop := codecPacksRow.holds Try.pinned (OpenSpec.ofChange codecPacksSpec)

/-- ITS FALSE NEIGHBOUR: 'it returns false'. Refute it at one input. -/
def codecPacksWrong : ChangeSpec := { name := "codecPacks", fn := fun _ => fun
  | [d1, d2] => { results := [.lit (.bool false)], args := [d1, d2] }
  | _ => none }
def CodecPacksWrongFalsely : Prop := codecPacksRow.holds Try.pinned (OpenSpec.ofChange codecPacksWrong)

/-- 'bindlelaw14.CodecStreams': WHATEVER THE INPUT: true; the input reads as it did. -/
def codecStreamsSpec : ChangeSpec := { name := "codecStreams", fn := fun _ => fun
  | [d1, d2] => { results := [.lit (.bool true)], args := [d1, d2] }
  | _ => none }
def codecStreamsRow : OpenClaim := { program := "ytedkglaoablgaaa", sum := "f69c5d31d25f238146da9ce5ff3c1ee34e61e21498e238239e43f6e4301d43f0", func := "bindle/bindlelaw14.CodecStreams", spec := "codecStreams", unfollowed := true, recurses := true, apart := false }
def CodecStreamsSaid : Prop := codecStreamsRow.holds Try.pinned (OpenSpec.ofChange codecStreamsSpec)

/-- ITS FALSE NEIGHBOUR: 'it returns false'. Refute it at one input. -/
def codecStreamsWrong : ChangeSpec := { name := "codecStreams", fn := fun _ => fun
  | [d1, d2] => { results := [.lit (.bool false)], args := [d1, d2] }
  | _ => none }
def CodecStreamsWrongFalsely : Prop := codecStreamsRow.holds Try.pinned (OpenSpec.ofChange codecStreamsWrong)

/-- 'bindlelaw13.BlockWeights': WHATEVER THE INPUT: true; the input reads as it did. -/
def blockWeightsSpec : ChangeSpec := { name := "blockWeights", fn := fun _ => fun
  | [d] => { results := [.lit (.bool true)], args := [d] }
  | _ => none }
def blockWeightsRow : OpenClaim := { program := "ytedkglaoablgaaa", sum := "f69c5d31d25f238146da9ce5ff3c1ee34e61e21498e238239e43f6e4301d43f0", func := "bindle/bindlelaw13.BlockWeights", spec := "blockWeights", unfollowed := true, recurses := true, apart := false }
def BlockWeightsSaid : Prop := blockWeightsRow.holds Try.pinned (OpenSpec.ofChange blockWeightsSpec)

/-- ITS FALSE NEIGHBOUR: 'it returns false'. Refute it at one input. -/
def blockWeightsWrong : ChangeSpec := { name := "blockWeights", fn := fun _ => fun
  | [d] => { results := [.lit (.bool false)], args := [d] }
  | _ => none }
def BlockWeightsWrongFalsely : Prop := blockWeightsRow.holds Try.pinned (OpenSpec.ofChange blockWeightsWrong)

/-- 'bindlelaw13.BlockBack': WHATEVER THE INPUT: true; the input reads as it did. -/
def blockBackSpec : ChangeSpec := { name := "blockBack", fn := fun _ => fun
  | [d1, d2, d3] => { results := [.lit (.bool true)], args := [d1, d2, d3] }
  | _ => none }
def blockBackRow : OpenClaim := { program := "ytedkglaoablgaaa", sum := "f69c5d31d25f238146da9ce5ff3c1ee34e61e21498e238239e43f6e4301d43f0", func := "bindle/bindlelaw13.BlockBack", spec := "blockBack", unfollowed := true, recurses := true, apart := false }
def BlockBackSaid : Prop := blockBackRow.holds Try.pinned (OpenSpec.ofChange blockBackSpec)

/-- ITS FALSE NEIGHBOUR: 'it returns false'. Refute it at one input. -/
def blockBackWrong : ChangeSpec := { name := "blockBack", fn := fun _ => fun
  | [d1, d2, d3] => { results := [.lit (.bool false)], args := [d1, d2, d3] }
  | _ => none }
def BlockBackWrongFalsely : Prop := blockBackRow.holds Try.pinned (OpenSpec.ofChange blockBackWrong)

/- THE SECOND FORM. 'bulk': how many values and letters a reading holds, each counted each time it is reached (what is shared counts as often as it is met; a slice's spare places count too). A statement '..UptoSaid' is the law's where the arguments, and the package variables that the reading takes, are together of bulk at most 1048576: NARROWER than '..Said'. Prove '..Said' where nothing that the law and all that it calls make is longer than what came in: it says more and counts as full. Else prove '..UptoSaid'. A law counts once. -/
mutual
def uptoBulk {H : Type} : DataW H → Nat
  | .lit (.string bytes) => bytes.length + 1
  | .lit _ => 1
  | .nil => 1
  | .ptr d => uptoBulk d + 1
  | .slice elems spare => uptoBulkAll elems + uptoBulkAll spare + 1
  | .agg parts => uptoBulkAll parts + 1
  | .iface _ d => uptoBulk d + 1
  | .map entries => uptoBulkEntries entries + 1
  | .held _ => 1
def uptoBulkAll {H : Type} : List (DataW H) → Nat
  | [] => 0
  | d :: r => uptoBulk d + uptoBulkAll r
def uptoBulkEntries {H : Type} : List (Lit × DataW H) → Nat
  | [] => 0
  | x :: r => uptoBulkEntry x + uptoBulkEntries r
def uptoBulkEntry {H : Type} : Lit × DataW H → Nat
  | (.string bytes, d) => bytes.length + uptoBulk d + 1
  | (_, d) => uptoBulk d + 1
 end
def uptoSmall : (H : Type) → List (DataW H) → Bool := fun _ ds => decide (uptoBulkAll ds ≤ 1048576)
def OpenSpec.upto (s : _root_.Go.ChangeSpec) : _root_.Go.OpenSpec := { _root_.Go.OpenSpec.ofChange s with cond := some uptoSmall }

/-- 'bindlelaw36.ReaderParts', WHERE WHAT IT READS IS OF BULK AT MOST 1048576: true; the input reads as it did. -/
def readerPartsUptoRow : OpenClaim := { program := "ytedkglaoablgaaa", sum := "f69c5d31d25f238146da9ce5ff3c1ee34e61e21498e238239e43f6e4301d43f0", func := "bindle/bindlelaw36.ReaderParts", spec := "readerParts", unfollowed := true, recurses := true, apart := false, narrowed := true }
def ReaderPartsUptoSaid : Prop := readerPartsUptoRow.holds Try.pinned (OpenSpec.upto readerPartsSpec)

/-- 'bindlelaw36.ReaderAll', WHERE WHAT IT READS IS OF BULK AT MOST 1048576: true; the input reads as it did. -/
def readerAllUptoRow : OpenClaim := { program := "ytedkglaoablgaaa", sum := "f69c5d31d25f238146da9ce5ff3c1ee34e61e21498e238239e43f6e4301d43f0", func := "bindle/bindlelaw36.ReaderAll", spec := "readerAll", unfollowed := true, recurses := true, apart := false, narrowed := true }
def ReaderAllUptoSaid : Prop := readerAllUptoRow.holds Try.pinned (OpenSpec.upto readerAllSpec)

/-- 'bindlelaw36.ReaderWholes', WHERE WHAT IT READS IS OF BULK AT MOST 1048576: true; the input reads as it did. -/
def readerWholesUptoRow : OpenClaim := { program := "ytedkglaoablgaaa", sum := "f69c5d31d25f238146da9ce5ff3c1ee34e61e21498e238239e43f6e4301d43f0", func := "bindle/bindlelaw36.ReaderWholes", spec := "readerWholes", unfollowed := true, recurses := true, apart := false, narrowed := true }
def ReaderWholesUptoSaid : Prop := readerWholesUptoRow.holds Try.pinned (OpenSpec.upto readerWholesSpec)

/-- 'bindlelaw36.ReaderPart', WHERE WHAT IT READS IS OF BULK AT MOST 1048576: true; the input reads as it did. -/
def readerPartUptoRow : OpenClaim := { program := "ytedkglaoablgaaa", sum := "f69c5d31d25f238146da9ce5ff3c1ee34e61e21498e238239e43f6e4301d43f0", func := "bindle/bindlelaw36.ReaderPart", spec := "readerPart", unfollowed := true, recurses := true, apart := false, narrowed := true }
def ReaderPartUptoSaid : Prop := readerPartUptoRow.holds Try.pinned (OpenSpec.upto readerPartSpec)

/-- 'bindlelaw14.CodecPacks', WHERE WHAT IT READS IS OF BULK AT MOST 1048576: true; the input reads as it did. -/
def codecPacksUptoRow : OpenClaim := { program := "ytedkglaoablgaaa", sum := "f69c5d31d25f238146da9ce5ff3c1ee34e61e21498e238239e43f6e4301d43f0", func := "bindle/bindlelaw14.CodecPacks", spec := "codecPacks", unfollowed := true, recurses := true, apart := false, narrowed := true }
def CodecPacksUptoSaid : Prop := codecPacksUptoRow.holds Try.pinned (OpenSpec.upto codecPacksSpec)

/-- 'bindlelaw14.CodecStreams', WHERE WHAT IT READS IS OF BULK AT MOST 1048576: true; the input reads as it did. -/
def codecStreamsUptoRow : OpenClaim := { program := "ytedkglaoablgaaa", sum := "f69c5d31d25f238146da9ce5ff3c1ee34e61e21498e238239e43f6e4301d43f0", func := "bindle/bindlelaw14.CodecStreams", spec := "codecStreams", unfollowed := true, recurses := true, apart := false, narrowed := true }
def CodecStreamsUptoSaid : Prop := codecStreamsUptoRow.holds Try.pinned (OpenSpec.upto codecStreamsSpec)

/-- 'bindlelaw13.BlockWeights', WHERE WHAT IT READS IS OF BULK AT MOST 1048576: true; the input reads as it did. -/
def blockWeightsUptoRow : OpenClaim := { program := "ytedkglaoablgaaa", sum := "f69c5d31d25f238146da9ce5ff3c1ee34e61e21498e238239e43f6e4301d43f0", func := "bindle/bindlelaw13.BlockWeights", spec := "blockWeights", unfollowed := true, recurses := true, apart := false, narrowed := true }
def BlockWeightsUptoSaid : Prop := blockWeightsUptoRow.holds Try.pinned (OpenSpec.upto blockWeightsSpec)

/-- 'bindlelaw13.BlockBack', WHERE WHAT IT READS IS OF BULK AT MOST 1048576: true; the input reads as it did. -/
def blockBackUptoRow : OpenClaim := { program := "ytedkglaoablgaaa", sum := "f69c5d31d25f238146da9ce5ff3c1ee34e61e21498e238239e43f6e4301d43f0", func := "bindle/bindlelaw13.BlockBack", spec := "blockBack", unfollowed := true, recurses := true, apart := false, narrowed := true }
def BlockBackUptoSaid : Prop := blockBackUptoRow.holds Try.pinned (OpenSpec.upto blockBackSpec)

end Rows
end Go.Proofs.Ytedkglaoablgaaa
