/-
  No cell of these rows narrows 'for every input' (looked for: loops, veiled, ifaces, maps, wideKeys, modest, calm, conditions, laid).
  DERIVED. THE GIVEN ROWS OF THIS SEAT. 13 by the template 'for every input the law returns true; each argument reads behind the call as it read before'; 0 by the template 'total and deterministic' (their statements: YtigbhndidohgbaaTotals.lean).
  GIVEN WITH THE SEED: the statements are not yours to turn. If you find one false, say at which input.
  Laid BY PROGRAM, IN A SANDBOX (cutbox-rows.mjs): the forced cells as the released guide's own fill.sh prints them over the translation 1f0e30bcaff64059… (all of the seat's roots in one cut). By AI agents, Wed Nov 11 2026. No macro, syntax, notation, axiom, sorry.
-/
import Derived.Test.YtigbhndidohgbaaChecked
import GoSem.Claim
import GoSem.ClaimJoined
import GoSem.ClaimMapViews
import Derived.JoinedTies
import Derived.KernelRfl
namespace Go.Proofs.Ytigbhndidohgbaa
/- THE CELL 'sum', in the pinned program and in every row, IS THE sha256 OF THE DUMP (.gsa) THAT YtigbhndidohgbaaProg.lean LOADS. Nothing in Lean hashes anything: it is a label: what it is worth is what the hold of that sum in a sandbox is worth. -/
noncomputable def Try.pinned : Pinned := { name := "ytigbhndidohgbaa", sum := "1f0e30bcaff640591179a978ca196f7f3fd7f6ce323a52271384e63a0911deb8", checked := Try.checked }
namespace Rows
def none {H : Type} : Left H := { results := [], args := [] }

/-- 'bindlelaw12.SymbolClasses': WHATEVER THE INPUT: true; the input reads as it did. -/
def symbolClassesSpec : ChangeSpec := { name := "symbolClasses", fn := fun _ => fun
  | [d1, d2] => { results := [.lit (.bool true)], args := [d1, d2] }
  | _ => none }
def symbolClassesRow : OpenClaim := { program := "ytigbhndidohgbaa", sum := "1f0e30bcaff640591179a978ca196f7f3fd7f6ce323a52271384e63a0911deb8", func := "bindle/bindlelaw12.SymbolClasses", spec := "symbolClasses", apart := false }
def SymbolClassesSaid : Prop := symbolClassesRow.holds Try.pinned (OpenSpec.ofChange symbolClassesSpec)

/-- ITS FALSE NEIGHBOUR: 'it returns false'. Refute it at one input. -/
def symbolClassesWrong : ChangeSpec := { name := "symbolClasses", fn := fun _ => fun
  | [d1, d2] => { results := [.lit (.bool false)], args := [d1, d2] }
  | _ => none }
def SymbolClassesWrongFalsely : Prop := symbolClassesRow.holds Try.pinned (OpenSpec.ofChange symbolClassesWrong)

/-- 'bindlelaw12.SymbolRises': WHATEVER THE INPUT: true; the input reads as it did. -/
def symbolRisesSpec : ChangeSpec := { name := "symbolRises", fn := fun _ => fun
  | [d1, d2] => { results := [.lit (.bool true)], args := [d1, d2] }
  | _ => none }
def symbolRisesRow : OpenClaim := { program := "ytigbhndidohgbaa", sum := "1f0e30bcaff640591179a978ca196f7f3fd7f6ce323a52271384e63a0911deb8", func := "bindle/bindlelaw12.SymbolRises", spec := "symbolRises", apart := false }
def SymbolRisesSaid : Prop := symbolRisesRow.holds Try.pinned (OpenSpec.ofChange symbolRisesSpec)

/-- ITS FALSE NEIGHBOUR: 'it returns false'. Refute it at one input. -/
def symbolRisesWrong : ChangeSpec := { name := "symbolRises", fn := fun _ => fun
  | [d1, d2] => { results := [.lit (.bool false)], args := [d1, d2] }
  | _ => none }
def SymbolRisesWrongFalsely : Prop := symbolRisesRow.holds Try.pinned (OpenSpec.ofChange symbolRisesWrong)

/-- 'bindlelaw12.SymbolSplits': WHATEVER THE INPUT: true; the input reads as it did. -/
def symbolSplitsSpec : ChangeSpec := { name := "symbolSplits", fn := fun _ => fun
  | [d1, d2] => { results := [.lit (.bool true)], args := [d1, d2] }
  | _ => none }
def symbolSplitsRow : OpenClaim := { program := "ytigbhndidohgbaa", sum := "1f0e30bcaff640591179a978ca196f7f3fd7f6ce323a52271384e63a0911deb8", func := "bindle/bindlelaw12.SymbolSplits", spec := "symbolSplits", apart := false }
def SymbolSplitsSaid : Prop := symbolSplitsRow.holds Try.pinned (OpenSpec.ofChange symbolSplitsSpec)

/-- ITS FALSE NEIGHBOUR: 'it returns false'. Refute it at one input. -/
def symbolSplitsWrong : ChangeSpec := { name := "symbolSplits", fn := fun _ => fun
  | [d1, d2] => { results := [.lit (.bool false)], args := [d1, d2] }
  | _ => none }
def SymbolSplitsWrongFalsely : Prop := symbolSplitsRow.holds Try.pinned (OpenSpec.ofChange symbolSplitsWrong)

/-- 'bindlelaw12.SymbolBack': WHATEVER THE INPUT: true; the input reads as it did. -/
def symbolBackSpec : ChangeSpec := { name := "symbolBack", fn := fun _ => fun
  | [d1, d2] => { results := [.lit (.bool true)], args := [d1, d2] }
  | _ => none }
def symbolBackRow : OpenClaim := { program := "ytigbhndidohgbaa", sum := "1f0e30bcaff640591179a978ca196f7f3fd7f6ce323a52271384e63a0911deb8", func := "bindle/bindlelaw12.SymbolBack", spec := "symbolBack", apart := false }
def SymbolBackSaid : Prop := symbolBackRow.holds Try.pinned (OpenSpec.ofChange symbolBackSpec)

/-- ITS FALSE NEIGHBOUR: 'it returns false'. Refute it at one input. -/
def symbolBackWrong : ChangeSpec := { name := "symbolBack", fn := fun _ => fun
  | [d1, d2] => { results := [.lit (.bool false)], args := [d1, d2] }
  | _ => none }
def SymbolBackWrongFalsely : Prop := symbolBackRow.holds Try.pinned (OpenSpec.ofChange symbolBackWrong)

/-- 'bindlelaw18.DescFits': WHATEVER THE INPUT: true; the input reads as it did. -/
def descFitsSpec : ChangeSpec := { name := "descFits", fn := fun _ => fun
  | [d1, d2] => { results := [.lit (.bool true)], args := [d1, d2] }
  | _ => none }
def descFitsRow : OpenClaim := { program := "ytigbhndidohgbaa", sum := "1f0e30bcaff640591179a978ca196f7f3fd7f6ce323a52271384e63a0911deb8", func := "bindle/bindlelaw18.DescFits", spec := "descFits", apart := false }
def DescFitsSaid : Prop := descFitsRow.holds Try.pinned (OpenSpec.ofChange descFitsSpec)

/-- ITS FALSE NEIGHBOUR: 'it returns false'. Refute it at one input. -/
def descFitsWrong : ChangeSpec := { name := "descFits", fn := fun _ => fun
  | [d1, d2] => { results := [.lit (.bool false)], args := [d1, d2] }
  | _ => none }
def DescFitsWrongFalsely : Prop := descFitsRow.holds Try.pinned (OpenSpec.ofChange descFitsWrong)

/-- 'bindlelaw18.DescPuts': WHATEVER THE INPUT: true; the input reads as it did. -/
def descPutsSpec : ChangeSpec := { name := "descPuts", fn := fun _ => fun
  | [d] => { results := [.lit (.bool true)], args := [d] }
  | _ => none }
def descPutsRow : OpenClaim := { program := "ytigbhndidohgbaa", sum := "1f0e30bcaff640591179a978ca196f7f3fd7f6ce323a52271384e63a0911deb8", func := "bindle/bindlelaw18.DescPuts", spec := "descPuts", apart := false }
def DescPutsSaid : Prop := descPutsRow.holds Try.pinned (OpenSpec.ofChange descPutsSpec)

/-- ITS FALSE NEIGHBOUR: 'it returns false'. Refute it at one input. -/
def descPutsWrong : ChangeSpec := { name := "descPuts", fn := fun _ => fun
  | [d] => { results := [.lit (.bool false)], args := [d] }
  | _ => none }
def DescPutsWrongFalsely : Prop := descPutsRow.holds Try.pinned (OpenSpec.ofChange descPutsWrong)

/-- 'bindlelaw21.SlotPuts': WHATEVER THE INPUT: true; the input reads as it did. -/
def slotPutsSpec : ChangeSpec := { name := "slotPuts", fn := fun _ => fun
  | [d] => { results := [.lit (.bool true)], args := [d] }
  | _ => none }
def slotPutsRow : OpenClaim := { program := "ytigbhndidohgbaa", sum := "1f0e30bcaff640591179a978ca196f7f3fd7f6ce323a52271384e63a0911deb8", func := "bindle/bindlelaw21.SlotPuts", spec := "slotPuts", apart := false }
def SlotPutsSaid : Prop := slotPutsRow.holds Try.pinned (OpenSpec.ofChange slotPutsSpec)

/-- ITS FALSE NEIGHBOUR: 'it returns false'. Refute it at one input. -/
def slotPutsWrong : ChangeSpec := { name := "slotPuts", fn := fun _ => fun
  | [d] => { results := [.lit (.bool false)], args := [d] }
  | _ => none }
def SlotPutsWrongFalsely : Prop := slotPutsRow.holds Try.pinned (OpenSpec.ofChange slotPutsWrong)

/-- 'bindlelaw21.SlotSpoilt': WHATEVER THE INPUT: true; the input reads as it did. -/
def slotSpoiltSpec : ChangeSpec := { name := "slotSpoilt", fn := fun _ => fun
  | [d1, d2, d3] => { results := [.lit (.bool true)], args := [d1, d2, d3] }
  | _ => none }
def slotSpoiltRow : OpenClaim := { program := "ytigbhndidohgbaa", sum := "1f0e30bcaff640591179a978ca196f7f3fd7f6ce323a52271384e63a0911deb8", func := "bindle/bindlelaw21.SlotSpoilt", spec := "slotSpoilt", apart := false }
def SlotSpoiltSaid : Prop := slotSpoiltRow.holds Try.pinned (OpenSpec.ofChange slotSpoiltSpec)

/-- ITS FALSE NEIGHBOUR: 'it returns false'. Refute it at one input. -/
def slotSpoiltWrong : ChangeSpec := { name := "slotSpoilt", fn := fun _ => fun
  | [d1, d2, d3] => { results := [.lit (.bool false)], args := [d1, d2, d3] }
  | _ => none }
def SlotSpoiltWrongFalsely : Prop := slotSpoiltRow.holds Try.pinned (OpenSpec.ofChange slotSpoiltWrong)

/-- 'bindlelaw18.DescTakes': WHATEVER THE INPUT: true; the input reads as it did. -/
def descTakesSpec : ChangeSpec := { name := "descTakes", fn := fun _ => fun
  | [d1, d2] => { results := [.lit (.bool true)], args := [d1, d2] }
  | _ => none }
def descTakesRow : OpenClaim := { program := "ytigbhndidohgbaa", sum := "1f0e30bcaff640591179a978ca196f7f3fd7f6ce323a52271384e63a0911deb8", func := "bindle/bindlelaw18.DescTakes", spec := "descTakes", apart := false }
def DescTakesSaid : Prop := descTakesRow.holds Try.pinned (OpenSpec.ofChange descTakesSpec)

/-- ITS FALSE NEIGHBOUR: 'it returns false'. Refute it at one input. -/
def descTakesWrong : ChangeSpec := { name := "descTakes", fn := fun _ => fun
  | [d1, d2] => { results := [.lit (.bool false)], args := [d1, d2] }
  | _ => none }
def DescTakesWrongFalsely : Prop := descTakesRow.holds Try.pinned (OpenSpec.ofChange descTakesWrong)

/-- 'bindlelaw21.SlotNexts': WHATEVER THE INPUT: true; the input reads as it did. -/
def slotNextsSpec : ChangeSpec := { name := "slotNexts", fn := fun _ => fun
  | [d1, d2, d3] => { results := [.lit (.bool true)], args := [d1, d2, d3] }
  | _ => none }
def slotNextsRow : OpenClaim := { program := "ytigbhndidohgbaa", sum := "1f0e30bcaff640591179a978ca196f7f3fd7f6ce323a52271384e63a0911deb8", func := "bindle/bindlelaw21.SlotNexts", spec := "slotNexts", apart := false }
def SlotNextsSaid : Prop := slotNextsRow.holds Try.pinned (OpenSpec.ofChange slotNextsSpec)

/-- ITS FALSE NEIGHBOUR: 'it returns false'. Refute it at one input. -/
def slotNextsWrong : ChangeSpec := { name := "slotNexts", fn := fun _ => fun
  | [d1, d2, d3] => { results := [.lit (.bool false)], args := [d1, d2, d3] }
  | _ => none }
def SlotNextsWrongFalsely : Prop := slotNextsRow.holds Try.pinned (OpenSpec.ofChange slotNextsWrong)

/-- 'bindlelaw21.SlotLater': WHATEVER THE INPUT: true; the input reads as it did. -/
def slotLaterSpec : ChangeSpec := { name := "slotLater", fn := fun _ => fun
  | [d] => { results := [.lit (.bool true)], args := [d] }
  | _ => none }
def slotLaterRow : OpenClaim := { program := "ytigbhndidohgbaa", sum := "1f0e30bcaff640591179a978ca196f7f3fd7f6ce323a52271384e63a0911deb8", func := "bindle/bindlelaw21.SlotLater", spec := "slotLater", apart := false }
def SlotLaterSaid : Prop := slotLaterRow.holds Try.pinned (OpenSpec.ofChange slotLaterSpec)

/-- ITS FALSE NEIGHBOUR: 'it returns false'. Refute it at one input. -/
def slotLaterWrong : ChangeSpec := { name := "slotLater", fn := fun _ => fun
  | [d] => { results := [.lit (.bool false)], args := [d] }
  | _ => none }
def SlotLaterWrongFalsely : Prop := slotLaterRow.holds Try.pinned (OpenSpec.ofChange slotLaterWrong)

/-- 'bindlelaw18.DescFlips': WHATEVER THE INPUT: true; the input reads as it did. -/
def descFlipsSpec : ChangeSpec := { name := "descFlips", fn := fun _ => fun
  | [d1, d2, d3] => { results := [.lit (.bool true)], args := [d1, d2, d3] }
  | _ => none }
def descFlipsRow : OpenClaim := { program := "ytigbhndidohgbaa", sum := "1f0e30bcaff640591179a978ca196f7f3fd7f6ce323a52271384e63a0911deb8", func := "bindle/bindlelaw18.DescFlips", spec := "descFlips", unfollowed := true, recurses := true, apart := false }
def DescFlipsSaid : Prop := descFlipsRow.holds Try.pinned (OpenSpec.ofChange descFlipsSpec)

/-- ITS FALSE NEIGHBOUR: 'it returns false'. Refute it at one input. -/
def descFlipsWrong : ChangeSpec := { name := "descFlips", fn := fun _ => fun
  | [d1, d2, d3] => { results := [.lit (.bool false)], args := [d1, d2, d3] }
  | _ => none }
def DescFlipsWrongFalsely : Prop := descFlipsRow.holds Try.pinned (OpenSpec.ofChange descFlipsWrong)

/-- 'bindlelaw18.DescBack': WHATEVER THE INPUT: true; the input reads as it did. -/
def descBackSpec : ChangeSpec := { name := "descBack", fn := fun _ => fun
  | [d1, d2] => { results := [.lit (.bool true)], args := [d1, d2] }
  | _ => none }
def descBackRow : OpenClaim := { program := "ytigbhndidohgbaa", sum := "1f0e30bcaff640591179a978ca196f7f3fd7f6ce323a52271384e63a0911deb8", func := "bindle/bindlelaw18.DescBack", spec := "descBack", unfollowed := true, recurses := true, apart := false }
def DescBackSaid : Prop := descBackRow.holds Try.pinned (OpenSpec.ofChange descBackSpec)

/-- ITS FALSE NEIGHBOUR: 'it returns false'. Refute it at one input. -/
def descBackWrong : ChangeSpec := { name := "descBack", fn := fun _ => fun
  | [d1, d2] => { results := [.lit (.bool false)], args := [d1, d2] }
  | _ => none }
def DescBackWrongFalsely : Prop := descBackRow.holds Try.pinned (OpenSpec.ofChange descBackWrong)

/- THE SECOND FORM. 'bulk': how many values and letters a reading holds, each counted each time it is reached (what is shared counts as often as it is met; a slice's spare places count too). A statement '..UptoSaid' is the law's where the arguments, and the package variables that the reading takes, are together of bulk at most 1048576: NARROWER than '..Said'. Prove '..Said' where nothing that the law and all that it calls make is longer than what came in: it says more and counts as full. Else prove '..UptoSaid'. A law counts once. -/
mutual
def uptoBulk {H : Type} : DataW H → Nat
  | .lit (.string bytes) => bytes.length + 1
  | .lit _ => 1
  | .nil => 1
  | .ptr d => uptoBulk d + 1
  | .slice elems spare => uptoBulkAll elems + uptoBulkAll spare + 1
  | .agg parts => uptoBulkAll parts + 1
  | .iface _ d => uptoBulk d + 1
  | .map entries => uptoBulkEntries entries + 1
  | .held _ => 1
def uptoBulkAll {H : Type} : List (DataW H) → Nat
  | [] => 0
  | d :: r => uptoBulk d + uptoBulkAll r
def uptoBulkEntries {H : Type} : List (Lit × DataW H) → Nat
  | [] => 0
  | x :: r => uptoBulkEntry x + uptoBulkEntries r
def uptoBulkEntry {H : Type} : Lit × DataW H → Nat
  | (.string bytes, d) => bytes.length + uptoBulk d + 1
  | (_, d) => uptoBulk d + 1
 end
def uptoSmall : (H : Type) → List (DataW H) → Bool := fun _ ds => decide (uptoBulkAll ds ≤ 1048576)
def OpenSpec.upto (s : _root_.Go.ChangeSpec) : _root_.Go.OpenSpec := { _root_.Go.OpenSpec.ofChange s with cond := some uptoSmall }

/-- 'bindlelaw12.SymbolClasses', WHERE WHAT IT READS IS OF BULK AT MOST 1048576: true; the input reads as it did. -/
def symbolClassesUptoRow : OpenClaim := { program := "ytigbhndidohgbaa", sum := "1f0e30bcaff640591179a978ca196f7f3fd7f6ce323a52271384e63a0911deb8", func := "bindle/bindlelaw12.SymbolClasses", spec := "symbolClasses", apart := false, narrowed := true }
def SymbolClassesUptoSaid : Prop := symbolClassesUptoRow.holds Try.pinned (OpenSpec.upto symbolClassesSpec)

/-- 'bindlelaw12.SymbolRises', WHERE WHAT IT READS IS OF BULK AT MOST 1048576: true; the input reads as it did. -/
def symbolRisesUptoRow : OpenClaim := { program := "ytigbhndidohgbaa", sum := "1f0e30bcaff640591179a978ca196f7f3fd7f6ce323a52271384e63a0911deb8", func := "bindle/bindlelaw12.SymbolRises", spec := "symbolRises", apart := false, narrowed := true }
def SymbolRisesUptoSaid : Prop := symbolRisesUptoRow.holds Try.pinned (OpenSpec.upto symbolRisesSpec)

/-- 'bindlelaw12.SymbolSplits', WHERE WHAT IT READS IS OF BULK AT MOST 1048576: true; the input reads as it did. -/
def symbolSplitsUptoRow : OpenClaim := { program := "ytigbhndidohgbaa", sum := "1f0e30bcaff640591179a978ca196f7f3fd7f6ce323a52271384e63a0911deb8", func := "bindle/bindlelaw12.SymbolSplits", spec := "symbolSplits", apart := false, narrowed := true }
def SymbolSplitsUptoSaid : Prop := symbolSplitsUptoRow.holds Try.pinned (OpenSpec.upto symbolSplitsSpec)

/-- 'bindlelaw12.SymbolBack', WHERE WHAT IT READS IS OF BULK AT MOST 1048576: true; the input reads as it did. -/
def symbolBackUptoRow : OpenClaim := { program := "ytigbhndidohgbaa", sum := "1f0e30bcaff640591179a978ca196f7f3fd7f6ce323a52271384e63a0911deb8", func := "bindle/bindlelaw12.SymbolBack", spec := "symbolBack", apart := false, narrowed := true }
def SymbolBackUptoSaid : Prop := symbolBackUptoRow.holds Try.pinned (OpenSpec.upto symbolBackSpec)

/-- 'bindlelaw18.DescFits', WHERE WHAT IT READS IS OF BULK AT MOST 1048576: true; the input reads as it did. -/
def descFitsUptoRow : OpenClaim := { program := "ytigbhndidohgbaa", sum := "1f0e30bcaff640591179a978ca196f7f3fd7f6ce323a52271384e63a0911deb8", func := "bindle/bindlelaw18.DescFits", spec := "descFits", apart := false, narrowed := true }
def DescFitsUptoSaid : Prop := descFitsUptoRow.holds Try.pinned (OpenSpec.upto descFitsSpec)

/-- 'bindlelaw18.DescPuts', WHERE WHAT IT READS IS OF BULK AT MOST 1048576: true; the input reads as it did. -/
def descPutsUptoRow : OpenClaim := { program := "ytigbhndidohgbaa", sum := "1f0e30bcaff640591179a978ca196f7f3fd7f6ce323a52271384e63a0911deb8", func := "bindle/bindlelaw18.DescPuts", spec := "descPuts", apart := false, narrowed := true }
def DescPutsUptoSaid : Prop := descPutsUptoRow.holds Try.pinned (OpenSpec.upto descPutsSpec)

/-- 'bindlelaw21.SlotPuts', WHERE WHAT IT READS IS OF BULK AT MOST 1048576: true; the input reads as it did. -/
def slotPutsUptoRow : OpenClaim := { program := "ytigbhndidohgbaa", sum := "1f0e30bcaff640591179a978ca196f7f3fd7f6ce323a52271384e63a0911deb8", func := "bindle/bindlelaw21.SlotPuts", spec := "slotPuts", apart := false, narrowed := true }
def SlotPutsUptoSaid : Prop := slotPutsUptoRow.holds Try.pinned (OpenSpec.upto slotPutsSpec)

/-- 'bindlelaw21.SlotSpoilt', WHERE WHAT IT READS IS OF BULK AT MOST 1048576: true; the input reads as it did. -/
def slotSpoiltUptoRow : OpenClaim := { program := "ytigbhndidohgbaa", sum := "1f0e30bcaff640591179a978ca196f7f3fd7f6ce323a52271384e63a0911deb8", func := "bindle/bindlelaw21.SlotSpoilt", spec := "slotSpoilt", apart := false, narrowed := true }
def SlotSpoiltUptoSaid : Prop := slotSpoiltUptoRow.holds Try.pinned (OpenSpec.upto slotSpoiltSpec)

/-- 'bindlelaw18.DescTakes', WHERE WHAT IT READS IS OF BULK AT MOST 1048576: true; the input reads as it did. -/
def descTakesUptoRow : OpenClaim := { program := "ytigbhndidohgbaa", sum := "1f0e30bcaff640591179a978ca196f7f3fd7f6ce323a52271384e63a0911deb8", func := "bindle/bindlelaw18.DescTakes", spec := "descTakes", apart := false, narrowed := true }
def DescTakesUptoSaid : Prop := descTakesUptoRow.holds Try.pinned (OpenSpec.upto descTakesSpec)

/-- 'bindlelaw21.SlotNexts', WHERE WHAT IT READS IS OF BULK AT MOST 1048576: true; the input reads as it did. -/
def slotNextsUptoRow : OpenClaim := { program := "ytigbhndidohgbaa", sum := "1f0e30bcaff640591179a978ca196f7f3fd7f6ce323a52271384e63a0911deb8", func := "bindle/bindlelaw21.SlotNexts", spec := "slotNexts", apart := false, narrowed := true }
def SlotNextsUptoSaid : Prop := slotNextsUptoRow.holds Try.pinned (OpenSpec.upto slotNextsSpec)

/-- 'bindlelaw21.SlotLater', WHERE WHAT IT READS IS OF BULK AT MOST 1048576: true; the input reads as it did. -/
def slotLaterUptoRow : OpenClaim := { program := "ytigbhndidohgbaa", sum := "1f0e30bcaff640591179a978ca196f7f3fd7f6ce323a52271384e63a0911deb8", func := "bindle/bindlelaw21.SlotLater", spec := "slotLater", apart := false, narrowed := true }
def SlotLaterUptoSaid : Prop := slotLaterUptoRow.holds Try.pinned (OpenSpec.upto slotLaterSpec)

/-- 'bindlelaw18.DescFlips', WHERE WHAT IT READS IS OF BULK AT MOST 1048576: true; the input reads as it did. -/
def descFlipsUptoRow : OpenClaim := { program := "ytigbhndidohgbaa", sum := "1f0e30bcaff640591179a978ca196f7f3fd7f6ce323a52271384e63a0911deb8", func := "bindle/bindlelaw18.DescFlips", spec := "descFlips", unfollowed := true, recurses := true, apart := false, narrowed := true }
def DescFlipsUptoSaid : Prop := descFlipsUptoRow.holds Try.pinned (OpenSpec.upto descFlipsSpec)

/-- 'bindlelaw18.DescBack', WHERE WHAT IT READS IS OF BULK AT MOST 1048576: true; the input reads as it did. -/
def descBackUptoRow : OpenClaim := { program := "ytigbhndidohgbaa", sum := "1f0e30bcaff640591179a978ca196f7f3fd7f6ce323a52271384e63a0911deb8", func := "bindle/bindlelaw18.DescBack", spec := "descBack", unfollowed := true, recurses := true, apart := false, narrowed := true }
def DescBackUptoSaid : Prop := descBackUptoRow.holds Try.pinned (OpenSpec.upto descBackSpec)

end Rows
end Go.Proofs.Ytigbhndidohgbaa
