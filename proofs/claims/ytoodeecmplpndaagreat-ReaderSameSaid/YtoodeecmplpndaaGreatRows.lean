/-
  No cell of these rows narrows 'for every input' (looked for: loops, veiled, ifaces, maps, wideKeys, modest, calm, conditions, laid).
  DERIVED. THE GIVEN ROWS OF THIS SEAT. 6 by the template 'for every input the law returns true; each argument reads behind the call as it read before'; 0 by the template 'total and deterministic' (their statements: YtoodeecmplpndaaGreatTotals.lean).
  GIVEN WITH THE SEED: the statements are not yours to turn. If you find one false, say at which input.
  Laid BY PROGRAM, IN A SANDBOX (cutbox-rows.mjs): the forced cells as the released guide's own fill.sh prints them over the translation 93e5578feb7c952f… (all of the seat's roots in one cut). By AI agents, Wed Nov 11 2026. No macro, syntax, notation, axiom, sorry.
-/
import Derived.Test.YtoodeecmplpndaaGreatChecked
import GoSem.Claim
import GoSem.ClaimJoined
import GoSem.ClaimMapViews
import Derived.JoinedTies
import Derived.KernelRfl
namespace Go.Proofs.YtoodeecmplpndaaGreat
/- THE CELL 'sum', in the pinned program and in every row, IS THE sha256 OF THE DUMP (.gsa) THAT YtoodeecmplpndaaGreatProg.lean LOADS. Nothing in Lean hashes anything: it is a label: what it is worth is what the hold of that sum in a sandbox is worth. -/
noncomputable def Tryz.pinned : Pinned := { name := "ytoodeecmplpndaagreat", sum := "93e5578feb7c952f41cee304b2b3fd19909453a28ae9a361e4a4561392415502", checked := Tryz.checked }
namespace Rows
def none {H : Type} : Left H := { results := [], args := [] }

/-- 'bindlelaw13.BlockTakes': WHATEVER THE INPUT: true; the input reads as it did. -/
def blockTakesSpec : ChangeSpec := { name := "blockTakes", fn := fun _ => fun
  | [d1, d2] => { results := [.lit (.bool true)], args := [d1, d2] }
  | _ => none }
def blockTakesRow : OpenClaim := { program := "ytoodeecmplpndaagreat", sum := "93e5578feb7c952f41cee304b2b3fd19909453a28ae9a361e4a4561392415502", func := "bindle/bindlelaw13.BlockTakes", spec := "blockTakes", unfollowed := true, recurses := true, apart := false }
def BlockTakesSaid : Prop := blockTakesRow.holds Tryz.pinned (OpenSpec.ofChange blockTakesSpec)

/-- ITS FALSE NEIGHBOUR: 'it returns false'. Refute it at one input. -/
def blockTakesWrong : ChangeSpec := { name := "blockTakes", fn := fun _ => fun
  | [d1, d2] => { results := [.lit (.bool false)], args := [d1, d2] }
  | _ => none }
def BlockTakesWrongFalsely : Prop := blockTakesRow.holds Tryz.pinned (OpenSpec.ofChange blockTakesWrong)

/-- 'bindlelaw13.BlockPuts': WHATEVER THE INPUT: true; the input reads as it did. -/
def blockPutsSpec : ChangeSpec := { name := "blockPuts", fn := fun _ => fun
  | [d] => { results := [.lit (.bool true)], args := [d] }
  | _ => none }
def blockPutsRow : OpenClaim := { program := "ytoodeecmplpndaagreat", sum := "93e5578feb7c952f41cee304b2b3fd19909453a28ae9a361e4a4561392415502", func := "bindle/bindlelaw13.BlockPuts", spec := "blockPuts", unfollowed := true, recurses := true, apart := false }
def BlockPutsSaid : Prop := blockPutsRow.holds Tryz.pinned (OpenSpec.ofChange blockPutsSpec)

/-- ITS FALSE NEIGHBOUR: 'it returns false'. Refute it at one input. -/
def blockPutsWrong : ChangeSpec := { name := "blockPuts", fn := fun _ => fun
  | [d] => { results := [.lit (.bool false)], args := [d] }
  | _ => none }
def BlockPutsWrongFalsely : Prop := blockPutsRow.holds Tryz.pinned (OpenSpec.ofChange blockPutsWrong)

/-- 'bindlelaw14.CodecUnpacks': WHATEVER THE INPUT: true; the input reads as it did. -/
def codecUnpacksSpec : ChangeSpec := { name := "codecUnpacks", fn := fun _ => fun
  | [d1, d2, d3] => { results := [.lit (.bool true)], args := [d1, d2, d3] }
  | _ => none }
def codecUnpacksRow : OpenClaim := { program := "ytoodeecmplpndaagreat", sum := "93e5578feb7c952f41cee304b2b3fd19909453a28ae9a361e4a4561392415502", func := "bindle/bindlelaw14.CodecUnpacks", spec := "codecUnpacks", unfollowed := true, recurses := true, apart := false }
def CodecUnpacksSaid : Prop := codecUnpacksRow.holds Tryz.pinned (OpenSpec.ofChange codecUnpacksSpec)

/-- ITS FALSE NEIGHBOUR: 'it returns false'. Refute it at one input. -/
def codecUnpacksWrong : ChangeSpec := { name := "codecUnpacks", fn := fun _ => fun
  | [d1, d2, d3] => { results := [.lit (.bool false)], args := [d1, d2, d3] }
  | _ => none }
def CodecUnpacksWrongFalsely : Prop := codecUnpacksRow.holds Tryz.pinned (OpenSpec.ofChange codecUnpacksWrong)

/-- 'bindlelaw14.CodecBack': WHATEVER THE INPUT: true; the input reads as it did. -/
def codecBackSpec : ChangeSpec := { name := "codecBack", fn := fun _ => fun
  | [d1, d2, d3] => { results := [.lit (.bool true)], args := [d1, d2, d3] }
  | _ => none }
def codecBackRow : OpenClaim := { program := "ytoodeecmplpndaagreat", sum := "93e5578feb7c952f41cee304b2b3fd19909453a28ae9a361e4a4561392415502", func := "bindle/bindlelaw14.CodecBack", spec := "codecBack", unfollowed := true, recurses := true, apart := false }
def CodecBackSaid : Prop := codecBackRow.holds Tryz.pinned (OpenSpec.ofChange codecBackSpec)

/-- ITS FALSE NEIGHBOUR: 'it returns false'. Refute it at one input. -/
def codecBackWrong : ChangeSpec := { name := "codecBack", fn := fun _ => fun
  | [d1, d2, d3] => { results := [.lit (.bool false)], args := [d1, d2, d3] }
  | _ => none }
def CodecBackWrongFalsely : Prop := codecBackRow.holds Tryz.pinned (OpenSpec.ofChange codecBackWrong)

/-- 'bindlelaw14.CodecRows': WHATEVER THE INPUT: true; the input reads as it did. -/
def codecRowsSpec : ChangeSpec := { name := "codecRows", fn := fun _ => fun
  | [d1, d2] => { results := [.lit (.bool true)], args := [d1, d2] }
  | _ => none }
def codecRowsRow : OpenClaim := { program := "ytoodeecmplpndaagreat", sum := "93e5578feb7c952f41cee304b2b3fd19909453a28ae9a361e4a4561392415502", func := "bindle/bindlelaw14.CodecRows", spec := "codecRows", unfollowed := true, recurses := true, apart := false }
def CodecRowsSaid : Prop := codecRowsRow.holds Tryz.pinned (OpenSpec.ofChange codecRowsSpec)

/-- ITS FALSE NEIGHBOUR: 'it returns false'. Refute it at one input. -/
def codecRowsWrong : ChangeSpec := { name := "codecRows", fn := fun _ => fun
  | [d1, d2] => { results := [.lit (.bool false)], args := [d1, d2] }
  | _ => none }
def CodecRowsWrongFalsely : Prop := codecRowsRow.holds Tryz.pinned (OpenSpec.ofChange codecRowsWrong)

/-- 'bindlelaw36.ReaderSame': WHATEVER THE INPUT: true; the input reads as it did. -/
def readerSameSpec : ChangeSpec := { name := "readerSame", fn := fun _ => fun
  | [d1, d2, d3] => { results := [.lit (.bool true)], args := [d1, d2, d3] }
  | _ => none }
def readerSameRow : OpenClaim := { program := "ytoodeecmplpndaagreat", sum := "93e5578feb7c952f41cee304b2b3fd19909453a28ae9a361e4a4561392415502", func := "bindle/bindlelaw36.ReaderSame", spec := "readerSame", unfollowed := true, recurses := true, apart := false }
def ReaderSameSaid : Prop := readerSameRow.holds Tryz.pinned (OpenSpec.ofChange readerSameSpec)

/-- ITS FALSE NEIGHBOUR: 'it returns false'. Refute it at one input. -/
def readerSameWrong : ChangeSpec := { name := "readerSame", fn := fun _ => fun
  | [d1, d2, d3] => { results := [.lit (.bool false)], args := [d1, d2, d3] }
  | _ => none }
def ReaderSameWrongFalsely : Prop := readerSameRow.holds Tryz.pinned (OpenSpec.ofChange readerSameWrong)

/- THE SECOND FORM. 'bulk': how many values and letters a reading holds, each counted each time it is reached (what is shared counts as often as it is met; a slice's spare places count too). A statement '..UptoSaid' is the law's where the arguments, and the package variables that the reading takes, are together of bulk at most 1048576: NARROWER than '..Said'. Prove '..Said' where nothing that the law and all that it calls make is longer than what came in: it says more and counts as full. Else prove '..UptoSaid'. A law counts once. -/
mutual
def uptoBulk {H : Type} : DataW H → Nat
  | .lit (.string bytes) => bytes.length + 1
  | .lit _ => 1
  | .nil => 1
  | .ptr d => uptoBulk d + 1
  | .slice elems spare => uptoBulkAll elems + uptoBulkAll spare + 1
  | .agg parts => uptoBulkAll parts + 1
  | .iface _ d => uptoBulk d + 1
  | .map entries => uptoBulkEntries entries + 1
  | .held _ => 1
def uptoBulkAll {H : Type} : List (DataW H) → Nat
  | [] => 0
  | d :: r => uptoBulk d + uptoBulkAll r
def uptoBulkEntries {H : Type} : List (Lit × DataW H) → Nat
  | [] => 0
  | x :: r => uptoBulkEntry x + uptoBulkEntries r
def uptoBulkEntry {H : Type} : Lit × DataW H → Nat
  | (.string bytes, d) => bytes.length + uptoBulk d + 1
  | (_, d) => uptoBulk d + 1
 end
def uptoSmall : (H : Type) → List (DataW H) → Bool := fun _ ds => decide (uptoBulkAll ds ≤ 1048576)
def OpenSpec.upto (s : _root_.Go.ChangeSpec) : _root_.Go.OpenSpec := { _root_.Go.OpenSpec.ofChange s with cond := some uptoSmall }

/-- 'bindlelaw13.BlockTakes', WHERE WHAT IT READS IS OF BULK AT MOST 1048576: true; the input reads as it did. -/
def blockTakesUptoRow : OpenClaim := { program := "ytoodeecmplpndaagreat", sum := "93e5578feb7c952f41cee304b2b3fd19909453a28ae9a361e4a4561392415502", func := "bindle/bindlelaw13.BlockTakes", spec := "blockTakes", unfollowed := true, recurses := true, apart := false, narrowed := true }
def BlockTakesUptoSaid : Prop := blockTakesUptoRow.holds Tryz.pinned (OpenSpec.upto blockTakesSpec)

/-- 'bindlelaw13.BlockPuts', WHERE WHAT IT READS IS OF BULK AT MOST 1048576: true; the input reads as it did. -/
def blockPutsUptoRow : OpenClaim := { program := "ytoodeecmplpndaagreat", sum := "93e5578feb7c952f41cee304b2b3fd19909453a28ae9a361e4a4561392415502", func := "bindle/bindlelaw13.BlockPuts", spec := "blockPuts", unfollowed := true, recurses := true, apart := false, narrowed := true }
def BlockPutsUptoSaid : Prop := blockPutsUptoRow.holds Tryz.pinned (OpenSpec.upto blockPutsSpec)

/-- 'bindlelaw14.CodecUnpacks', WHERE WHAT IT READS IS OF BULK AT MOST 1048576: true; the input reads as it did. -/
def codecUnpacksUptoRow : OpenClaim := { program := "ytoodeecmplpndaagreat", sum := "93e5578feb7c952f41cee304b2b3fd19909453a28ae9a361e4a4561392415502", func := "bindle/bindlelaw14.CodecUnpacks", spec := "codecUnpacks", unfollowed := true, recurses := true, apart := false, narrowed := true }
def CodecUnpacksUptoSaid : Prop := codecUnpacksUptoRow.holds Tryz.pinned (OpenSpec.upto codecUnpacksSpec)

/-- 'bindlelaw14.CodecBack', WHERE WHAT IT READS IS OF BULK AT MOST 1048576: true; the input reads as it did. -/
def codecBackUptoRow : OpenClaim := { program := "ytoodeecmplpndaagreat", sum := "93e5578feb7c952f41cee304b2b3fd19909453a28ae9a361e4a4561392415502", func := "bindle/bindlelaw14.CodecBack", spec := "codecBack", unfollowed := true, recurses := true, apart := false, narrowed := true }
def CodecBackUptoSaid : Prop := codecBackUptoRow.holds Tryz.pinned (OpenSpec.upto codecBackSpec)

/-- 'bindlelaw14.CodecRows', WHERE WHAT IT READS IS OF BULK AT MOST 1048576: true; the input reads as it did. -/
def codecRowsUptoRow : OpenClaim := { program := "ytoodeecmplpndaagreat", sum := "93e5578feb7c952f41cee304b2b3fd19909453a28ae9a361e4a4561392415502", func := "bindle/bindlelaw14.CodecRows", spec := "codecRows", unfollowed := true, recurses := true, apart := false, narrowed := true }
def CodecRowsUptoSaid : Prop := codecRowsUptoRow.holds Tryz.pinned (OpenSpec.upto codecRowsSpec)

/-- 'bindlelaw36.ReaderSame', WHERE WHAT IT READS IS OF BULK AT MOST 1048576: true; the input reads as it did. -/
def readerSameUptoRow : OpenClaim := { program := "ytoodeecmplpndaagreat", sum := "93e5578feb7c952f41cee304b2b3fd19909453a28ae9a361e4a4561392415502", func := "bindle/bindlelaw36.ReaderSame", spec := "readerSame", unfollowed := true, recurses := true, apart := false, narrowed := true }
def ReaderSameUptoSaid : Prop := readerSameUptoRow.holds Tryz.pinned (OpenSpec.upto readerSameSpec)

end Rows
end Go.Proofs.YtoodeecmplpndaaGreat
