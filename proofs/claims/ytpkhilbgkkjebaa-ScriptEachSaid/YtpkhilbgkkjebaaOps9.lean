/- Operations, further: a slice of a whole array. -/
import Derived.Test.YtpkhilbgkkjebaaOps8
set_option linter.unusedVariables false
set_option linter.unusedSimpArgs false
namespace Go.Bn
open Go
section
variable {P : Program} {E : Env} {hp : Heap} {cl : Cls} {d : Option Tmp} {ty : TypeId} {pos : String} {af : Array Edge} {g : Option (Nat × Bool)}
variable {x : Operand} {t : TypeId}
/-- Is this an array of n elements? -/
def arrN (P : Program) (t : TypeId) : Option Nat :=
  match P.underlying t with
  | some (.array n e) => match P.info? e with
    | some _ => some n
    | none => none
  | _ => none
theorem arrN_spec {n : Nat} (h : arrN P t = some n) : ∃ e i, P.underlying t = some (.array n e) ∧ P.info? e = some i := by
  unfold arrN at h
  split at h
  · rename_i m e hu
    split at h
    · rename_i i hi
      cases h
      exact ⟨e, i, hu, hi⟩
    · cases h
  · cases h
/-- x[:] of an array. -/
theorem op_slice_arr {n b o : Nat} (hx : ev E x = some (.pointer (some ⟨b, o, none⟩))) (ht : arrN P t = some n) (hn : Nat.blt 0 n = true) : Op1 cl P ⟨d, .slice t x none none none, ty, pos, af, g⟩ E hp (.slice (some ⟨b, o, none⟩) n n) :=
  .of_pure fun _ a ho w' => by
    obtain ⟨e, i, hu, hi⟩ := arrN_spec ht
    have hn : 0 < n := by simpa [Nat.blt_eq] using hn
    have : (Instr.sliceAt t (.pointer (some ⟨b, o, none⟩)) none none none).run P w' = .ok (.slice (some ⟨b, o, none⟩) n n) w' := by
      simp [Instr.sliceAt, run_underlying hu, Instr.sureAddr, Instr.sliceBounds, Instr.sliceBound, sizeOf, typeInfo, hi, Nat.ne_of_gt hn, addr_add]
    simp [execOp, ho.eval hx, this]
end
end Go.Bn
