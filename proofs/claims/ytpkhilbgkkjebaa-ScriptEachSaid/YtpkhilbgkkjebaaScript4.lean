/- The contract of script.Take's deferred closure. -/
import Derived.Test.YtpkhilbgkkjebaaScript3
import Derived.Test.YtpkhilbgkkjebaaDef
set_option linter.unusedVariables false
set_option linter.unusedSimpArgs false
set_option maxHeartbeats 4000000
set_option maxRecDepth 20000
namespace Go.Bn
open Go Proofs

theorem eq_nil (w : World) : (Op.equal 20 .nilIface .nilIface).run Try.prog w = .ok true w := by kernel_rfl
theorem eq_short_nil (w : World) : (Op.equal 20 shortV .nilIface).run Try.prog w = .ok false w := by kernel_rfl
theorem eq_short (w : World) : (Op.equal 20 shortV shortV).run Try.prog w = .ok true w := by kernel_rfl

theorem take1_ret (p2 p3 : Nat) (h0 : Heap) : RetD Try.prog 22 [.pointer (some ⟨p2, 0, none⟩), .pointer (some ⟨p3, 0, none⟩)] .returning h0 fun u' hp' => u' = .returning ∧ h0 = hp' := by
  refine retD_of_X Try.func22 rfl rfl rfl rfl fun w0 hw0 => ?_
  simp only [argE, Nat.zero_add, Nat.reduceAdd, recV]
  refine X_seq ?_
  refine X_reg ?_
  refine XR_a (op_move rfl) rfl rfl ?_
  refine XR_nil ?_
  refine X_block ?_
  refine X_seq ?_
  refine X_reg ?_
  refine XR_a (op_eqlNil rfl eq_nil) rfl rfl ?_
  refine XR_a (op_assign rfl) rfl rfl ?_
  refine XR_nil ?_
  refine X_then rfl ?_
  refine X_skip ?_
  refine X_blk ?_
  exact X_endD .nil ⟨rfl, rfl⟩
theorem take1_pan {B p2 p3 : Nat} {v2 v3 : Value} {F : List Res} {h0 : Heap} (st : St B h0 h0 (pt p2 24 [v2] :: pt p3 25 [v3] :: F)) :
    RetD Try.prog 22 [.pointer (some ⟨p2, 0, none⟩), .pointer (some ⟨p3, 0, none⟩)] (.panicking shortC) h0
      fun u' h' => settle u' = .returning ∧ St B h0 h' (pt p2 24 [.slice none 0 0] :: pt p3 25 [nV 2] :: F) := by
  refine retD_of_X Try.func22 rfl rfl rfl rfl fun w0 hw0 => ?_
  simp only [argE, Nat.zero_add, Nat.reduceAdd, recV]
  refine X_seq ?_
  refine X_reg ?_
  refine XR_a (op_move rfl) rfl rfl ?_
  refine XR_nil ?_
  refine X_block ?_
  refine X_seq ?_
  refine X_reg ?_
  refine XR_a (op_eqlIf rfl rfl eq_short_nil) rfl rfl ?_
  refine XR_a (op_assign rfl) rfl rfl ?_
  refine XR_nil ?_
  refine X_else rfl ?_
  refine X_seq ?_
  refine X_reg ?_
  refine XR_a (op_build (ps := []) (cs := #[]) rfl rfl) rfl rfl ?_
  refine XR_a (op_iface rfl (by kernel_rfl)) rfl rfl ?_
  refine XR_a (op_eqlIf rfl rfl eq_short) rfl rfl ?_
  refine XR_a (op_assign rfl) rfl rfl ?_
  refine XR_nil ?_
  refine X_then rfl ?_
  refine X_reg ?_
  refine XR_wn (opl_store_pt st 0 rfl rfl rfl rfl rfl (rfl)) rfl rfl fun _ hp st => ?_
  simp only [List.set_cons_zero, List.set_cons_succ] at st
  refine XR_wn (opl_store_pt st 1 rfl rfl rfl rfl rfl (rfl)) rfl rfl fun _ hp st => ?_
  simp only [List.set_cons_zero, List.set_cons_succ] at st
  refine XR_nil ?_
  refine X_blk ?_
  exact X_endD .nil ⟨rfl, st⟩
end Go.Bn
