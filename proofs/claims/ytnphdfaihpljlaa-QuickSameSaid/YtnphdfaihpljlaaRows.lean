/-
  No cell of these rows narrows 'for every input' (looked for: loops, veiled, ifaces, maps, wideKeys, modest, calm, conditions, laid).
  DERIVED. THE GIVEN ROWS OF THIS SEAT. 13 by the template 'for every input the law returns true; each argument reads behind the call as it read before'; 0 by the template 'total and deterministic' (their statements: YtnphdfaihpljlaaTotals.lean).
  GIVEN WITH THE SEED: the statements are not yours to turn. If you find one false, say at which input.
  Laid BY PROGRAM, IN A SANDBOX (cutbox-rows.mjs): the forced cells as the released guide's own fill.sh prints them over the translation df0d7f8a866d19ae… (all of the seat's roots in one cut). By AI agents, Wed Nov 11 2026. No macro, syntax, notation, axiom, sorry.
-/
import Derived.Test.YtnphdfaihpljlaaChecked
import GoSem.Claim
import GoSem.ClaimJoined
import GoSem.ClaimMapViews
import Derived.JoinedTies
import Derived.KernelRfl
namespace Go.Proofs.Ytnphdfaihpljlaa
/- THE CELL 'sum', in the pinned program and in every row, IS THE sha256 OF THE DUMP (.gsa) THAT YtnphdfaihpljlaaProg.lean LOADS. Nothing in Lean hashes anything: it is a label: what it is worth is what the hold of that sum in a sandbox is worth. -/
noncomputable def Try.pinned : Pinned := { name := "ytnphdfaihpljlaa", sum := "df0d7f8a866d19aee7ae407cb62ffc0dbb8d450146960cfc6c45e44824319371", checked := Try.checked }
namespace Rows
def none {H : Type} : Left H := { results := [], args := [] }

/-- 'bindlelaw08.CanonValues': WHATEVER THE INPUT: true; the input reads as it did. -/
def canonValuesSpec : ChangeSpec := { name := "canonValues", fn := fun _ => fun
  | [d1, d2] => { results := [.lit (.bool true)], args := [d1, d2] }
  | _ => none }
def canonValuesRow : OpenClaim := { program := "ytnphdfaihpljlaa", sum := "df0d7f8a866d19aee7ae407cb62ffc0dbb8d450146960cfc6c45e44824319371", func := "bindle/bindlelaw08.CanonValues", spec := "canonValues", unfollowed := true, recurses := true, apart := false }
def CanonValuesSaid : Prop := canonValuesRow.holds Try.pinned (OpenSpec.ofChange canonValuesSpec)

/-- ITS FALSE NEIGHBOUR: 'it returns false'. Refute it at one input. -/
def canonValuesWrong : ChangeSpec := { name := "canonValues", fn := fun _ => fun
  | [d1, d2] => { results := [.lit (.bool false)], args := [d1, d2] }
  | _ => none }
def CanonValuesWrongFalsely : Prop := canonValuesRow.holds Try.pinned (OpenSpec.ofChange canonValuesWrong)

/-- 'bindlelaw08.CanonPuts': WHATEVER THE INPUT: true; the input reads as it did. -/
def canonPutsSpec : ChangeSpec := { name := "canonPuts", fn := fun _ => fun
  | [d1, d2] => { results := [.lit (.bool true)], args := [d1, d2] }
  | _ => none }
def canonPutsRow : OpenClaim := { program := "ytnphdfaihpljlaa", sum := "df0d7f8a866d19aee7ae407cb62ffc0dbb8d450146960cfc6c45e44824319371", func := "bindle/bindlelaw08.CanonPuts", spec := "canonPuts", unfollowed := true, recurses := true, apart := false }
def CanonPutsSaid : Prop := canonPutsRow.holds Try.pinned (OpenSpec.ofChange canonPutsSpec)

/-- ITS FALSE NEIGHBOUR: 'it returns false'. Refute it at one input. -/
def canonPutsWrong : ChangeSpec := { name := "canonPuts", fn := fun _ => fun
  | [d1, d2] => { results := [.lit (.bool false)], args := [d1, d2] }
  | _ => none }
def CanonPutsWrongFalsely : Prop := canonPutsRow.holds Try.pinned (OpenSpec.ofChange canonPutsWrong)

/-- 'bindlelaw08.CanonApart': WHATEVER THE INPUT: true; the input reads as it did. -/
def canonApartSpec : ChangeSpec := { name := "canonApart", fn := fun _ => fun
  | [d1, d2] => { results := [.lit (.bool true)], args := [d1, d2] }
  | _ => none }
def canonApartRow : OpenClaim := { program := "ytnphdfaihpljlaa", sum := "df0d7f8a866d19aee7ae407cb62ffc0dbb8d450146960cfc6c45e44824319371", func := "bindle/bindlelaw08.CanonApart", spec := "canonApart", unfollowed := true, recurses := true, apart := false }
def CanonApartSaid : Prop := canonApartRow.holds Try.pinned (OpenSpec.ofChange canonApartSpec)

/-- ITS FALSE NEIGHBOUR: 'it returns false'. Refute it at one input. -/
def canonApartWrong : ChangeSpec := { name := "canonApart", fn := fun _ => fun
  | [d1, d2] => { results := [.lit (.bool false)], args := [d1, d2] }
  | _ => none }
def CanonApartWrongFalsely : Prop := canonApartRow.holds Try.pinned (OpenSpec.ofChange canonApartWrong)

/-- 'bindlelaw34.QuickTurns': WHATEVER THE INPUT: true; the input reads as it did. -/
def quickTurnsSpec : ChangeSpec := { name := "quickTurns", fn := fun _ => fun
  | [d1, d2] => { results := [.lit (.bool true)], args := [d1, d2] }
  | _ => none }
def quickTurnsRow : OpenClaim := { program := "ytnphdfaihpljlaa", sum := "df0d7f8a866d19aee7ae407cb62ffc0dbb8d450146960cfc6c45e44824319371", func := "bindle/bindlelaw34.QuickTurns", spec := "quickTurns", unfollowed := true, recurses := true, apart := false }
def QuickTurnsSaid : Prop := quickTurnsRow.holds Try.pinned (OpenSpec.ofChange quickTurnsSpec)

/-- ITS FALSE NEIGHBOUR: 'it returns false'. Refute it at one input. -/
def quickTurnsWrong : ChangeSpec := { name := "quickTurns", fn := fun _ => fun
  | [d1, d2] => { results := [.lit (.bool false)], args := [d1, d2] }
  | _ => none }
def QuickTurnsWrongFalsely : Prop := quickTurnsRow.holds Try.pinned (OpenSpec.ofChange quickTurnsWrong)

/-- 'bindlelaw34.QuickRows': WHATEVER THE INPUT: true; the input reads as it did. -/
def quickRowsSpec : ChangeSpec := { name := "quickRows", fn := fun _ => fun
  | [d1, d2, d3] => { results := [.lit (.bool true)], args := [d1, d2, d3] }
  | _ => none }
def quickRowsRow : OpenClaim := { program := "ytnphdfaihpljlaa", sum := "df0d7f8a866d19aee7ae407cb62ffc0dbb8d450146960cfc6c45e44824319371", func := "bindle/bindlelaw34.QuickRows", spec := "quickRows", unfollowed := true, recurses := true, apart := false }
def QuickRowsSaid : Prop := quickRowsRow.holds Try.pinned (OpenSpec.ofChange quickRowsSpec)

/-- ITS FALSE NEIGHBOUR: 'it returns false'. Refute it at one input. -/
def quickRowsWrong : ChangeSpec := { name := "quickRows", fn := fun _ => fun
  | [d1, d2, d3] => { results := [.lit (.bool false)], args := [d1, d2, d3] }
  | _ => none }
def QuickRowsWrongFalsely : Prop := quickRowsRow.holds Try.pinned (OpenSpec.ofChange quickRowsWrong)

/-- 'bindlelaw34.QuickSizes': WHATEVER THE INPUT: true; the input reads as it did. -/
def quickSizesSpec : ChangeSpec := { name := "quickSizes", fn := fun _ => fun
  | [d1, d2] => { results := [.lit (.bool true)], args := [d1, d2] }
  | _ => none }
def quickSizesRow : OpenClaim := { program := "ytnphdfaihpljlaa", sum := "df0d7f8a866d19aee7ae407cb62ffc0dbb8d450146960cfc6c45e44824319371", func := "bindle/bindlelaw34.QuickSizes", spec := "quickSizes", unfollowed := true, recurses := true, apart := false }
def QuickSizesSaid : Prop := quickSizesRow.holds Try.pinned (OpenSpec.ofChange quickSizesSpec)

/-- ITS FALSE NEIGHBOUR: 'it returns false'. Refute it at one input. -/
def quickSizesWrong : ChangeSpec := { name := "quickSizes", fn := fun _ => fun
  | [d1, d2] => { results := [.lit (.bool false)], args := [d1, d2] }
  | _ => none }
def QuickSizesWrongFalsely : Prop := quickSizesRow.holds Try.pinned (OpenSpec.ofChange quickSizesWrong)

/-- 'bindlelaw08.CanonBack': WHATEVER THE INPUT: true; the input reads as it did. -/
def canonBackSpec : ChangeSpec := { name := "canonBack", fn := fun _ => fun
  | [d1, d2] => { results := [.lit (.bool true)], args := [d1, d2] }
  | _ => none }
def canonBackRow : OpenClaim := { program := "ytnphdfaihpljlaa", sum := "df0d7f8a866d19aee7ae407cb62ffc0dbb8d450146960cfc6c45e44824319371", func := "bindle/bindlelaw08.CanonBack", spec := "canonBack", unfollowed := true, recurses := true, apart := false }
def CanonBackSaid : Prop := canonBackRow.holds Try.pinned (OpenSpec.ofChange canonBackSpec)

/-- ITS FALSE NEIGHBOUR: 'it returns false'. Refute it at one input. -/
def canonBackWrong : ChangeSpec := { name := "canonBack", fn := fun _ => fun
  | [d1, d2] => { results := [.lit (.bool false)], args := [d1, d2] }
  | _ => none }
def CanonBackWrongFalsely : Prop := canonBackRow.holds Try.pinned (OpenSpec.ofChange canonBackWrong)

/-- 'bindlelaw31.ScriptTakes': WHATEVER THE INPUT: true; the input reads as it did. -/
def scriptTakesSpec : ChangeSpec := { name := "scriptTakes", fn := fun _ => fun
  | [d] => { results := [.lit (.bool true)], args := [d] }
  | _ => none }
def scriptTakesRow : OpenClaim := { program := "ytnphdfaihpljlaa", sum := "df0d7f8a866d19aee7ae407cb62ffc0dbb8d450146960cfc6c45e44824319371", func := "bindle/bindlelaw31.ScriptTakes", spec := "scriptTakes", unfollowed := true, recurses := true, apart := false }
def ScriptTakesSaid : Prop := scriptTakesRow.holds Try.pinned (OpenSpec.ofChange scriptTakesSpec)

/-- ITS FALSE NEIGHBOUR: 'it returns false'. Refute it at one input. -/
def scriptTakesWrong : ChangeSpec := { name := "scriptTakes", fn := fun _ => fun
  | [d] => { results := [.lit (.bool false)], args := [d] }
  | _ => none }
def ScriptTakesWrongFalsely : Prop := scriptTakesRow.holds Try.pinned (OpenSpec.ofChange scriptTakesWrong)

/-- 'bindlelaw31.ScriptEach': WHATEVER THE INPUT: true; the input reads as it did. -/
def scriptEachSpec : ChangeSpec := { name := "scriptEach", fn := fun _ => fun
  | [d1, d2] => { results := [.lit (.bool true)], args := [d1, d2] }
  | _ => none }
def scriptEachRow : OpenClaim := { program := "ytnphdfaihpljlaa", sum := "df0d7f8a866d19aee7ae407cb62ffc0dbb8d450146960cfc6c45e44824319371", func := "bindle/bindlelaw31.ScriptEach", spec := "scriptEach", unfollowed := true, recurses := true, apart := false }
def ScriptEachSaid : Prop := scriptEachRow.holds Try.pinned (OpenSpec.ofChange scriptEachSpec)

/-- ITS FALSE NEIGHBOUR: 'it returns false'. Refute it at one input. -/
def scriptEachWrong : ChangeSpec := { name := "scriptEach", fn := fun _ => fun
  | [d1, d2] => { results := [.lit (.bool false)], args := [d1, d2] }
  | _ => none }
def ScriptEachWrongFalsely : Prop := scriptEachRow.holds Try.pinned (OpenSpec.ofChange scriptEachWrong)

/-- 'bindlelaw34.QuickTakes': WHATEVER THE INPUT: true; the input reads as it did. -/
def quickTakesSpec : ChangeSpec := { name := "quickTakes", fn := fun _ => fun
  | [d1, d2, d3] => { results := [.lit (.bool true)], args := [d1, d2, d3] }
  | _ => none }
def quickTakesRow : OpenClaim := { program := "ytnphdfaihpljlaa", sum := "df0d7f8a866d19aee7ae407cb62ffc0dbb8d450146960cfc6c45e44824319371", func := "bindle/bindlelaw34.QuickTakes", spec := "quickTakes", unfollowed := true, recurses := true, apart := false }
def QuickTakesSaid : Prop := quickTakesRow.holds Try.pinned (OpenSpec.ofChange quickTakesSpec)

/-- ITS FALSE NEIGHBOUR: 'it returns false'. Refute it at one input. -/
def quickTakesWrong : ChangeSpec := { name := "quickTakes", fn := fun _ => fun
  | [d1, d2, d3] => { results := [.lit (.bool false)], args := [d1, d2, d3] }
  | _ => none }
def QuickTakesWrongFalsely : Prop := quickTakesRow.holds Try.pinned (OpenSpec.ofChange quickTakesWrong)

/-- 'bindlelaw31.ScriptPuts': WHATEVER THE INPUT: true; the input reads as it did. -/
def scriptPutsSpec : ChangeSpec := { name := "scriptPuts", fn := fun _ => fun
  | [d1, d2] => { results := [.lit (.bool true)], args := [d1, d2] }
  | _ => none }
def scriptPutsRow : OpenClaim := { program := "ytnphdfaihpljlaa", sum := "df0d7f8a866d19aee7ae407cb62ffc0dbb8d450146960cfc6c45e44824319371", func := "bindle/bindlelaw31.ScriptPuts", spec := "scriptPuts", unfollowed := true, recurses := true, apart := false }
def ScriptPutsSaid : Prop := scriptPutsRow.holds Try.pinned (OpenSpec.ofChange scriptPutsSpec)

/-- ITS FALSE NEIGHBOUR: 'it returns false'. Refute it at one input. -/
def scriptPutsWrong : ChangeSpec := { name := "scriptPuts", fn := fun _ => fun
  | [d1, d2] => { results := [.lit (.bool false)], args := [d1, d2] }
  | _ => none }
def ScriptPutsWrongFalsely : Prop := scriptPutsRow.holds Try.pinned (OpenSpec.ofChange scriptPutsWrong)

/-- 'bindlelaw31.ScriptBack': WHATEVER THE INPUT: true; the input reads as it did. -/
def scriptBackSpec : ChangeSpec := { name := "scriptBack", fn := fun _ => fun
  | [d1, d2, d3] => { results := [.lit (.bool true)], args := [d1, d2, d3] }
  | _ => none }
def scriptBackRow : OpenClaim := { program := "ytnphdfaihpljlaa", sum := "df0d7f8a866d19aee7ae407cb62ffc0dbb8d450146960cfc6c45e44824319371", func := "bindle/bindlelaw31.ScriptBack", spec := "scriptBack", unfollowed := true, recurses := true, apart := false }
def ScriptBackSaid : Prop := scriptBackRow.holds Try.pinned (OpenSpec.ofChange scriptBackSpec)

/-- ITS FALSE NEIGHBOUR: 'it returns false'. Refute it at one input. -/
def scriptBackWrong : ChangeSpec := { name := "scriptBack", fn := fun _ => fun
  | [d1, d2, d3] => { results := [.lit (.bool false)], args := [d1, d2, d3] }
  | _ => none }
def ScriptBackWrongFalsely : Prop := scriptBackRow.holds Try.pinned (OpenSpec.ofChange scriptBackWrong)

/-- 'bindlelaw34.QuickSame': WHATEVER THE INPUT: true; the input reads as it did. -/
def quickSameSpec : ChangeSpec := { name := "quickSame", fn := fun _ => fun
  | [d1, d2, d3] => { results := [.lit (.bool true)], args := [d1, d2, d3] }
  | _ => none }
def quickSameRow : OpenClaim := { program := "ytnphdfaihpljlaa", sum := "df0d7f8a866d19aee7ae407cb62ffc0dbb8d450146960cfc6c45e44824319371", func := "bindle/bindlelaw34.QuickSame", spec := "quickSame", unfollowed := true, recurses := true, apart := false }
def QuickSameSaid : Prop := quickSameRow.holds Try.pinned (OpenSpec.ofChange quickSameSpec)

/-- ITS FALSE NEIGHBOUR: 'it returns false'. Refute it at one input. -/
def quickSameWrong : ChangeSpec := { name := "quickSame", fn := fun _ => fun
  | [d1, d2, d3] => { results := [.lit (.bool false)], args := [d1, d2, d3] }
  | _ => none }
def QuickSameWrongFalsely : Prop := quickSameRow.holds Try.pinned (OpenSpec.ofChange quickSameWrong)

/- THE SECOND FORM. 'bulk': how many values and letters a reading holds, each counted each time it is reached (what is shared counts as often as it is met; a slice's spare places count too). A statement '..UptoSaid' is the law's where the arguments, and the package variables that the reading takes, are together of bulk at most 1048576: NARROWER than '..Said'. Prove '..Said' where nothing that the law and all that it calls make is longer than what came in: it says more and counts as full. Else prove '..UptoSaid'. A law counts once. -/
mutual
def uptoBulk {H : Type} : DataW H → Nat
  | .lit (.string bytes) => bytes.length + 1
  | .lit _ => 1
  | .nil => 1
  | .ptr d => uptoBulk d + 1
  | .slice elems spare => uptoBulkAll elems + uptoBulkAll spare + 1
  | .agg parts => uptoBulkAll parts + 1
  | .iface _ d => uptoBulk d + 1
  | .map entries => uptoBulkEntries entries + 1
  | .held _ => 1
def uptoBulkAll {H : Type} : List (DataW H) → Nat
  | [] => 0
  | d :: r => uptoBulk d + uptoBulkAll r
def uptoBulkEntries {H : Type} : List (Lit × DataW H) → Nat
  | [] => 0
  | x :: r => uptoBulkEntry x + uptoBulkEntries r
def uptoBulkEntry {H : Type} : Lit × DataW H → Nat
  | (.string bytes, d) => bytes.length + uptoBulk d + 1
  | (_, d) => uptoBulk d + 1
 end
def uptoSmall : (H : Type) → List (DataW H) → Bool := fun _ ds => decide (uptoBulkAll ds ≤ 1048576)
def OpenSpec.upto (s : _root_.Go.ChangeSpec) : _root_.Go.OpenSpec := { _root_.Go.OpenSpec.ofChange s with cond := some uptoSmall }

/-- 'bindlelaw08.CanonValues', WHERE WHAT IT READS IS OF BULK AT MOST 1048576: true; the input reads as it did. -/
def canonValuesUptoRow : OpenClaim := { program := "ytnphdfaihpljlaa", sum := "df0d7f8a866d19aee7ae407cb62ffc0dbb8d450146960cfc6c45e44824319371", func := "bindle/bindlelaw08.CanonValues", spec := "canonValues", unfollowed := true, recurses := true, apart := false, narrowed := true }
def CanonValuesUptoSaid : Prop := canonValuesUptoRow.holds Try.pinned (OpenSpec.upto canonValuesSpec)

/-- 'bindlelaw08.CanonPuts', WHERE WHAT IT READS IS OF BULK AT MOST 1048576: true; the input reads as it did. -/
def canonPutsUptoRow : OpenClaim := { program := "ytnphdfaihpljlaa", sum := "df0d7f8a866d19aee7ae407cb62ffc0dbb8d450146960cfc6c45e44824319371", func := "bindle/bindlelaw08.CanonPuts", spec := "canonPuts", unfollowed := true, recurses := true, apart := false, narrowed := true }
def CanonPutsUptoSaid : Prop := canonPutsUptoRow.holds Try.pinned (OpenSpec.upto canonPutsSpec)

/-- 'bindlelaw08.CanonApart', WHERE WHAT IT READS IS OF BULK AT MOST 1048576: true; the input reads as it did. -/
def canonApartUptoRow : OpenClaim := { program := "ytnphdfaihpljlaa", sum := "df0d7f8a866d19aee7ae407cb62ffc0dbb8d450146960cfc6c45e44824319371", func := "bindle/bindlelaw08.CanonApart", spec := "canonApart", unfollowed := true, recurses := true, apart := false, narrowed := true }
def CanonApartUptoSaid : Prop := canonApartUptoRow.holds Try.pinned (OpenSpec.upto canonApartSpec)

/-- 'bindlelaw34.QuickTurns', WHERE WHAT IT READS IS OF BULK AT MOST 1048576: true; the input reads as it did. -/
def quickTurnsUptoRow : OpenClaim := { program := "ytnphdfaihpljlaa", sum := "df0d7f8a866d19aee7ae407cb62ffc0dbb8d450146960cfc6c45e44824319371", func := "bindle/bindlelaw34.QuickTurns", spec := "quickTurns", unfollowed := true, recurses := true, apart := false, narrowed := true }
def QuickTurnsUptoSaid : Prop := quickTurnsUptoRow.holds Try.pinned (OpenSpec.upto quickTurnsSpec)

/-- 'bindlelaw34.QuickRows', WHERE WHAT IT READS IS OF BULK AT MOST 1048576: true; the input reads as it did. -/
def quickRowsUptoRow : OpenClaim := { program := "ytnphdfaihpljlaa", sum := "df0d7f8a866d19aee7ae407cb62ffc0dbb8d450146960cfc6c45e44824319371", func := "bindle/bindlelaw34.QuickRows", spec := "quickRows", unfollowed := true, recurses := true, apart := false, narrowed := true }
def QuickRowsUptoSaid : Prop := quickRowsUptoRow.holds Try.pinned (OpenSpec.upto quickRowsSpec)

/-- 'bindlelaw34.QuickSizes', WHERE WHAT IT READS IS OF BULK AT MOST 1048576: true; the input reads as it did. -/
def quickSizesUptoRow : OpenClaim := { program := "ytnphdfaihpljlaa", sum := "df0d7f8a866d19aee7ae407cb62ffc0dbb8d450146960cfc6c45e44824319371", func := "bindle/bindlelaw34.QuickSizes", spec := "quickSizes", unfollowed := true, recurses := true, apart := false, narrowed := true }
def QuickSizesUptoSaid : Prop := quickSizesUptoRow.holds Try.pinned (OpenSpec.upto quickSizesSpec)

/-- 'bindlelaw08.CanonBack', WHERE WHAT IT READS IS OF BULK AT MOST 1048576: true; the input reads as it did. -/
def canonBackUptoRow : OpenClaim := { program := "ytnphdfaihpljlaa", sum := "df0d7f8a866d19aee7ae407cb62ffc0dbb8d450146960cfc6c45e44824319371", func := "bindle/bindlelaw08.CanonBack", spec := "canonBack", unfollowed := true, recurses := true, apart := false, narrowed := true }
def CanonBackUptoSaid : Prop := canonBackUptoRow.holds Try.pinned (OpenSpec.upto canonBackSpec)

/-- 'bindlelaw31.ScriptTakes', WHERE WHAT IT READS IS OF BULK AT MOST 1048576: true; the input reads as it did. -/
def scriptTakesUptoRow : OpenClaim := { program := "ytnphdfaihpljlaa", sum := "df0d7f8a866d19aee7ae407cb62ffc0dbb8d450146960cfc6c45e44824319371", func := "bindle/bindlelaw31.ScriptTakes", spec := "scriptTakes", unfollowed := true, recurses := true, apart := false, narrowed := true }
def ScriptTakesUptoSaid : Prop := scriptTakesUptoRow.holds Try.pinned (OpenSpec.upto scriptTakesSpec)

/-- 'bindlelaw31.ScriptEach', WHERE WHAT IT READS IS OF BULK AT MOST 1048576: true; the input reads as it did. -/
def scriptEachUptoRow : OpenClaim := { program := "ytnphdfaihpljlaa", sum := "df0d7f8a866d19aee7ae407cb62ffc0dbb8d450146960cfc6c45e44824319371", func := "bindle/bindlelaw31.ScriptEach", spec := "scriptEach", unfollowed := true, recurses := true, apart := false, narrowed := true }
def ScriptEachUptoSaid : Prop := scriptEachUptoRow.holds Try.pinned (OpenSpec.upto scriptEachSpec)

/-- 'bindlelaw34.QuickTakes', WHERE WHAT IT READS IS OF BULK AT MOST 1048576: true; the input reads as it did. -/
def quickTakesUptoRow : OpenClaim := { program := "ytnphdfaihpljlaa", sum := "df0d7f8a866d19aee7ae407cb62ffc0dbb8d450146960cfc6c45e44824319371", func := "bindle/bindlelaw34.QuickTakes", spec := "quickTakes", unfollowed := true, recurses := true, apart := false, narrowed := true }
def QuickTakesUptoSaid : Prop := quickTakesUptoRow.holds Try.pinned (OpenSpec.upto quickTakesSpec)

/-- 'bindlelaw31.ScriptPuts', WHERE WHAT IT READS IS OF BULK AT MOST 1048576: true; the input reads as it did. -/
def scriptPutsUptoRow : OpenClaim := { program := "ytnphdfaihpljlaa", sum := "df0d7f8a866d19aee7ae407cb62ffc0dbb8d450146960cfc6c45e44824319371", func := "bindle/bindlelaw31.ScriptPuts", spec := "scriptPuts", unfollowed := true, recurses := true, apart := false, narrowed := true }
def ScriptPutsUptoSaid : Prop := scriptPutsUptoRow.holds Try.pinned (OpenSpec.upto scriptPutsSpec)

/-- 'bindlelaw31.ScriptBack', WHERE WHAT IT READS IS OF BULK AT MOST 1048576: true; the input reads as it did. -/
def scriptBackUptoRow : OpenClaim := { program := "ytnphdfaihpljlaa", sum := "df0d7f8a866d19aee7ae407cb62ffc0dbb8d450146960cfc6c45e44824319371", func := "bindle/bindlelaw31.ScriptBack", spec := "scriptBack", unfollowed := true, recurses := true, apart := false, narrowed := true }
def ScriptBackUptoSaid : Prop := scriptBackUptoRow.holds Try.pinned (OpenSpec.upto scriptBackSpec)

/-- 'bindlelaw34.QuickSame', WHERE WHAT IT READS IS OF BULK AT MOST 1048576: true; the input reads as it did. -/
def quickSameUptoRow : OpenClaim := { program := "ytnphdfaihpljlaa", sum := "df0d7f8a866d19aee7ae407cb62ffc0dbb8d450146960cfc6c45e44824319371", func := "bindle/bindlelaw34.QuickSame", spec := "quickSame", unfollowed := true, recurses := true, apart := false, narrowed := true }
def QuickSameUptoSaid : Prop := quickSameUptoRow.holds Try.pinned (OpenSpec.upto quickSameSpec)

end Rows
end Go.Proofs.Ytnphdfaihpljlaa
