/- Packed texts of a claim: what its theorem uses, joined. -/
import Derived.Test.YtoodeecmplpndaaGreatProg
import Derived.Test.YtoodeecmplpndaaGreatPkCdc13
import Derived.Test.YtoodeecmplpndaaGreatPkCdc15
section
set_option linter.unusedVariables false
set_option linter.unusedSimpArgs false
set_option maxHeartbeats 4000000
set_option maxRecDepth 20000
namespace Go.Bn
open Go Proofs
theorem fwidth_spec (k : Int) (hp : Heap) : Ret Tryz.prog 98 [.int .i64 k] hp fun v hp' => v = .int .i64 (wid k : Nat) ∧ hp = hp' := by
 refine ret_of_X Tryz.func98 rfl rfl fun w0 hw0 => ?_
 simp only [argE, Nat.zero_add, Nat.reduceAdd]
 refine X_seq (X_reg (XA rfl rfl rfl (XR_nil (X_seq (X_reg (XV rfl rfl rfl ?_))))))
 refine XR_a (op_min2 rfl rfl) rfl rfl ?_
 refine XR_a (op_max2 rfl rfl) rfl rfl ?_
 refine XA rfl rfl rfl (XR_nil ?_)
 refine X_ret (.cons (.tmp rfl) .nil) ?_
 refine ⟨?_, rfl⟩
 rw [wid_int]; rfl
theorem fput_spec {B n : Nat} {k : Int} {v : Value} {l : List UInt8} {F : List Res} {h0 : Heap} (st : St B h0 h0 (row 5 1 v (l.map byteV) :: F)) (hn : n < 4294967296) (hl : l.length ≤ 1099511627776) :
  Ret Tryz.prog 60 [v, .int .u32 (n : Int), .int .i64 k] h0 fun v' h' => St B h0 h' (row 5 1 v' ((l ++ leB (wid k) n).map byteV) :: F) := by
 have hw := wid_le k
 refine ret_of_X Tryz.func60 rfl rfl fun w0 hw0 => ?_
 simp only [argE, Nat.zero_add, Nat.reduceAdd]
 refine X_seq (X_reg (XA rfl rfl rfl (XR_nil (X_seq (X_seq (X_reg (XV rfl rfl rfl ?_)))))))
 refine XR_wa (opl_call (fwidth_spec _ _) rfl (by kernel_rfl)) rfl rfl rfl ?_
 rintro _ _ ⟨rfl, rfl⟩
 refine XV rfl rfl rfl (XR_nil (X_block ?_))
 refine X_loop (fun s => wid k - s.2.1) (fun s => [(0, s.1), (1, .int .u32 (s.2.2 : Int)), (8, .int .i64 (wid k : Nat)), (9, .int .i64 (s.2.1 : Int))])
  (fun (s : Value × Nat × Nat) hp => St B h0 hp (row 5 1 s.1 ((l ++ leB s.2.1 n).map byteV) :: F) ∧ s.2.1 ≤ wid k ∧ s.2.2 = n / 256 ^ s.2.1)
  (v, 0, n) (.cons rfl (.cons rfl (.cons rfl (.cons rfl (.nil _))))) ⟨by simpa [leB] using st, by simp, by simp⟩ ?_
 clear st
 rintro ⟨v, i, m⟩ hp ⟨st, hi, hm⟩
 simp only at st hi hm ⊢
 have hmn : m ≤ n := by rw [hm]; exact Nat.div_le_self _ _
 refine X_seq (X_reg ?_)
 refine XR_a (op_lss rfl rfl) rfl rfl ?_
 refine XR_nil (X_seq ?_)
 refine X_if rfl (fun h => ?_) (fun h => ?_)
 ·refine X_skip (X_seq (X_block (X_seq (X_reg (XV rfl rfl rfl (XV rfl rfl rfl ?_))))))
  refine XR_a (op_convU rfl rfl rfl) rfl rfl ?_
  refine XR_as (byteV (UInt8.ofNat m)) (by simp [byteV, IntKind.bits]) ?_
  refine XR_wa (opl_var1 rfl rfl rfl) rfl rfl rfl ?_
  rintro _ hp ⟨A, rfl, hx, hrd⟩
  have st := st.ext hx
  refine XR_wa (opl_append st 0 rfl (hrd) (rfl) (by simp [Value.one, byteV]) (by simp [leB_length]; omega) rfl rfl rfl rfl rfl rfl rfl) rfl rfl rfl fun v hp st => ?_
  simp only [List.set_cons_zero, List.set_cons_succ] at st
  refine XA rfl rfl rfl (XR_nil (X_reg (XV rfl rfl rfl ?_)))
  first | refine XR_a (op_shrC 8 rfl rfl (by decide)) rfl rfl ?_ | refine XR_a (op_shrN 8 rfl rfl (by decide)) rfl rfl ?_
  refine XA rfl rfl rfl (XR_nil (X_blk (X_reg ?_)))
  first | refine XR_a (op_addN (n := 1) rfl rfl (by simp only [inK]; omega)) rfl rfl ?_ | refine XR_a (op_addI rfl rfl (by simp only [inK]; omega)) rfl rfl ?_ | refine XR_a (op_add rfl rfl) rfl rfl ?_
  refine XV rfl rfl rfl (XR_nil ?_)
  rw [← List.map_singleton (f := byteV), ← List.map_append, List.append_assoc, hm, ← leB_snoc] at st
  refine X_again (v, i + 1, m / 2 ^ 8) (.cons rfl (.cons rfl (.cons rfl (.cons rfl (.nil _))))) ⟨st, ?_, ?_⟩ ?_
  ·simp only; omega
  ·simp only; rw [hm, Nat.div_div_eq_div_mul, show (2 : Nat) ^ 8 = 256 by rfl, Nat.pow_succ]
  ·simp only; omega
 ·refine X_exit rfl (X_seq (X_reg (XV rfl rfl rfl (XA rfl rfl rfl (XR_nil ?_)))))
  refine X_ret (.cons (.tmp rfl) .nil) ?_
  have : i = wid k := by omega
  subst this
  exact st
theorem fget_spec {at_ k : Int} {A : Option Addr} {n c : Nat} {l : List UInt8} {h0 : Heap} (hr : Rd h0 A (l.map byteV)) (hl : l.length = n) (hn : n ≤ 140737488355328) (ha : inK .i64 at_) :
  Ret Tryz.prog 125 [.slice A n c, .int .i64 at_, .int .i64 k] h0 fun v h' => v = retVal [.int .u32 (((getF l at_ k).getD 0 : Nat) : Int), .bool (getF l at_ k).isSome] ∧ h0 = h' := by
 have hw := wid_le k
 have hw1 := wid_pos k
 simp only [inK] at ha
 refine ret_of_X Tryz.func125 rfl rfl fun w0 hw0 => ?_
 simp only [argE, Nat.zero_add, Nat.reduceAdd]
 refine X_seq (X_reg (XA rfl rfl rfl (XA rfl rfl rfl (XR_nil (X_seq (X_reg (XV rfl rfl rfl ?_)))))))
 refine XR_wa (opl_call (fwidth_spec _ _) rfl (by kernel_rfl)) rfl rfl rfl ?_
 rintro _ _ ⟨rfl, rfl⟩
 refine XA rfl rfl rfl (XR_nil (X_seq (X_seq (X_reg (XV rfl rfl rfl ?_)))))
 refine XR_a (op_lss rfl rfl) rfl rfl ?_
 refine XV rfl rfl rfl ?_
 refine XR_if 15 rfl (fun h => ?_) (fun h => ?_)
 ·refine XR_no rfl rfl (XR_no rfl rfl (XR_no rfl rfl (XR_no rfl rfl (XR_no rfl rfl (XR_no rfl rfl (XR_a (op_pick_t rfl rfl) rfl rfl (XR_nil (X_then rfl (X_seq ?_)))))))))
  refine X_reg (XA rfl rfl rfl (XA rfl rfl rfl (XR_nil ?_)))
  refine X_ret (.cons (.tmp rfl) (.cons (.tmp rfl) .nil)) ?_
  have : getF l at_ k = none := by unfold getF; rw [if_neg (by omega)]
  rw [this]; exact ⟨rfl, rfl⟩
 ·refine XV rfl rfl rfl (XV rfl rfl rfl ?_)
  refine XR_a (op_len rfl rfl rfl) rfl rfl ?_
  refine XV rfl rfl rfl ?_
  refine XR_a (op_subI rfl rfl (by simp only [inK]; omega)) rfl rfl ?_
  refine XR_a (op_gtr rfl rfl) rfl rfl ?_
  refine XR_a (op_pick_f rfl rfl) rfl rfl (XR_nil ?_)
  refine X_if rfl (fun h => ?_) (fun h => ?_)
  ·refine X_seq (X_reg (XA rfl rfl rfl (XA rfl rfl rfl (XR_nil ?_))))
   refine X_ret (.cons (.tmp rfl) (.cons (.tmp rfl) .nil)) ?_
   have : getF l at_ k = none := by unfold getF; rw [if_neg (by omega)]
   rw [this]; exact ⟨rfl, rfl⟩
  ·obtain ⟨a, rfl⟩ : ∃ a : Nat, at_ = (a : Int) := ⟨at_.toNat, by omega⟩
   have hg : getF l (a : Int) k = some (leV ((l.drop a).take (wid k))) := by unfold getF; rw [if_pos (by omega)]; simp
   rw [hg]
   refine X_skip (X_seq (X_reg (XA rfl rfl rfl (XR_nil (X_seq (X_seq (X_reg (XV rfl rfl rfl ?_))))))))
   refine XR_a (op_subI rfl rfl (by simp only [inK]; omega)) rfl rfl ?_
   refine XA rfl rfl rfl (XR_nil (X_block ?_))
   obtain ⟨b, o, rfl, hc⟩ : ∃ b o, A = some ⟨b, o, none⟩ ∧ ∀ i u, (l.map byteV)[i]? = some u → cellH h0 ⟨b, o + i, none⟩ = some u := by
    rcases hr with h | h
    ·exfalso
     have : l = [] := by simpa using h
     subst this; simp at hl; omega
    ·exact h
   refine X_loop (fun s => s) (fun s => [(0, .slice (some ⟨b, o, none⟩) n c), (1, .int .i64 (a : Int)), (9, .int .u32 (leV ((l.drop (a + s)).take (wid k - s)) : Nat)), (10, .int .i64 ((s : Int) - 1))])
    (fun (s : Nat) hp => h0 = hp ∧ s ≤ wid k)
    (wid k) (.cons rfl (.cons rfl (.cons (by simp [leV]; rfl) (.cons rfl (.nil _))))) ⟨rfl, Nat.le_refl _⟩ ?_
   rintro i hp ⟨rfl, hi⟩
   refine X_seq (X_seq (X_reg (XV rfl rfl rfl ?_)))
   refine XR_a (op_geq rfl rfl) rfl rfl ?_
   refine XR_nil ?_
   refine X_if rfl (fun h => ?_) (fun h => ?_)
   ·obtain ⟨i, rfl⟩ : ∃ j, i = j + 1 := ⟨i - 1, by omega⟩
    have hlt : a + i < l.length := by omega
    have hstep : (l.drop (a + i)).take (wid k - i) = l[a + i] :: (l.drop (a + (i + 1))).take (wid k - (i + 1)) := by
     rw [List.drop_eq_getElem_cons hlt, show wid k - i = (wid k - (i + 1)) + 1 by omega, List.take_succ_cons]; rfl
    have hcell := hc (a + i) (byteV l[a + i]) (by simp [hlt])
    have hv := leV_lt ((l.drop (a + (i + 1))).take (wid k - (i + 1)))
    have hv2 : leV ((l.drop (a + (i + 1))).take (wid k - (i + 1))) < 16777216 := by
     refine Nat.lt_of_lt_of_le hv (Nat.le_trans (Nat.pow_le_pow_right (by omega) (?_ : _ ≤ 3)) (by decide))
     rw [List.length_take]; omega
    have hb := (l[a + i]).toNat_lt
    rw [show (((i + 1 : Nat) : Int) - 1) = (i : Int) by omega]
    refine X_skip (X_seq (X_block (X_reg (XV rfl rfl rfl ?_))))
    first | refine XR_a (op_shlC 8 rfl rfl (by decide) (by simp only [inK]; omega)) rfl rfl ?_ | refine XR_a (op_shlI 8 rfl rfl (by decide) (by simp only [inK]; omega)) rfl rfl ?_ | refine XR_a (op_shlN 8 rfl rfl (by decide)) rfl rfl ?_
    refine XV rfl rfl rfl (XV rfl rfl rfl (XV rfl rfl rfl ?_))
    first | refine XR_a (op_addN rfl rfl (by simp only [inK]; omega)) rfl rfl ?_ | refine XR_a (op_addI rfl rfl (by simp only [inK]; omega)) rfl rfl ?_ | refine XR_a (op_add rfl rfl) rfl rfl ?_
    refine XR_a (op_index1 (i := a + i) rfl rfl rfl (by omega)) rfl rfl ?_
    refine XR_a (op_ld (hcell) rfl rfl rfl) rfl rfl ?_
    refine XR_a (op_convI rfl rfl (by simp only [inK]; omega)) rfl rfl ?_
    refine XR_a (op_orN rfl rfl rfl (by simp only [IntKind.bits]; omega) (by simp only [IntKind.bits]; omega)) rfl rfl ?_
    rw [show leV ((l.drop (a + (i + 1))).take (wid k - (i + 1))) * 2 ^ 8 ||| l[a + i].toNat = leV ((l.drop (a + i)).take (wid k - i)) by
     rw [hstep, leV, Nat.mul_comm, ← Nat.two_pow_add_eq_or_of_lt hb]; omega]
    refine XA rfl rfl rfl (XR_nil (X_blk (X_reg (XV rfl rfl rfl ?_))))
    refine XR_a (op_subI rfl rfl (by simp only [inK]; omega)) rfl rfl ?_
    refine XA rfl rfl rfl (XR_nil ?_)
    exact X_again i (.cons rfl (.cons rfl (.cons rfl (.cons rfl (.nil _))))) ⟨rfl, by omega⟩ (by omega)
   ·refine X_exit rfl (X_seq (X_reg (XV rfl rfl rfl (XA rfl rfl rfl (XA rfl rfl rfl (XR_nil ?_))))))
    refine X_ret (.cons (.tmp rfl) (.cons (.tmp rfl) .nil)) ?_
    have : i = 0 := by omega
    subst this
    exact ⟨rfl, rfl⟩
end Go.Bn
end

section
set_option linter.unusedVariables false
set_option linter.unusedSimpArgs false
set_option maxHeartbeats 4000000
set_option maxRecDepth 20000
namespace Go.Bn
open Go Proofs
theorem St.only {B : Nat} {h0 hp : Heap} {r : Res} : ∀ {rs : List Res}, St B h0 hp (r :: rs) → St B h0 hp [r]
 | [], s => s
 | _ :: _, s => (s.perm (List.Perm.swap _ _ _)).tail.only
@[reducible] def fdG (p : Nat) (A : Option Addr) (m c at_ : Nat) (bad : Bool) : Res := pt p 213 [.slice A m c, .int .i64 (at_ : Int), .bool bad]
theorem fnew_spec {m c : Nat} {A : Option Addr} {h0 : Heap} : Ret Tryz.prog 90 [.slice A m c] h0 fun v h' => ∃ p, v = .pointer (some ⟨p, 0, none⟩) ∧ St h0.size h0 h' [fdG p A m c 0 false] := by
 refine ret_of_X Tryz.func90 rfl rfl fun w0 hw0 => ?_
 simp only [argE, Nat.zero_add, Nat.reduceAdd]
 have st := St.start h0
 refine X_seq (X_reg (XA rfl rfl rfl (XR_nil (X_seq (X_reg (XV rfl rfl rfl ?_))))))
 refine XR_a (op_build (ps := [(0, .slice A m c)]) (cs := #[.slice A m c, .int .i64 0, .bool false]) rfl rfl) rfl rfl ?_
 refine XR_wa (opl_bx rfl rfl) rfl rfl rfl ?_
 rintro _ hp ⟨p, rfl, hnew⟩
 have st := st.new hnew
 refine XA rfl rfl rfl (XR_nil ?_)
 refine X_ret (.cons (.tmp rfl) .nil) ?_
 exact ⟨_, rfl, st⟩
theorem fok_spec {p : Nat} {b : Bool} {h0 : Heap} (c2 : cellH h0 ⟨p, 2, none⟩ = some (.bool b)) : Ret Tryz.prog 93 [.pointer (some ⟨p, 0, none⟩)] h0 fun v h' => v = .bool (!b) ∧ h0 = h' := by
 refine ret_of_X Tryz.func93 rfl rfl fun w0 hw0 => ?_
 simp only [argE, Nat.zero_add, Nat.reduceAdd]
 refine X_seq (X_reg (XA rfl rfl rfl (XR_nil (X_seq (X_reg (XV rfl rfl rfl ?_))))))
 refine XR_a (op_ptr_nnil rfl rfl rfl) rfl rfl ?_
 refine XV rfl rfl rfl (XV rfl rfl rfl (XR_a (op_nilCheck rfl) rfl rfl ?_))
 first | refine XR_a (op_field0 rfl rfl) rfl rfl ?_ | refine XR_a (op_fieldn rfl rfl) rfl rfl ?_
 refine XR_a (op_ld (by first | assumption | exact st.cell 0 rfl rfl | exact st.cell 1 rfl rfl | exact st.cell 2 rfl rfl | exact st.cell 3 rfl rfl) rfl rfl rfl) rfl rfl ?_
 refine XR_a (op_not rfl) rfl rfl ?_
 refine XR_a (op_pick_t rfl rfl) rfl rfl (XA rfl rfl rfl (XR_nil ?_))
 refine X_ret (.cons (.tmp rfl) .nil) ?_
 exact ⟨rfl, rfl⟩
theorem fleft_spec {p m c a : Nat} {A : Option Addr} {h0 : Heap} (c0 : cellH h0 ⟨p, 0, none⟩ = some (.slice A m c)) (c1 : cellH h0 ⟨p, 1, none⟩ = some (.int .i64 (a : Int))) (hm : m ≤ 1099511627776) (ha : a ≤ m) :
  Ret Tryz.prog 94 [.pointer (some ⟨p, 0, none⟩)] h0 fun v h' => v = .int .i64 (m - a : Nat) ∧ h0 = h' := by
 refine ret_of_X Tryz.func94 rfl rfl fun w0 hw0 => ?_
 simp only [argE, Nat.zero_add, Nat.reduceAdd]
 refine X_seq (X_reg (XA rfl rfl rfl (XR_nil (X_seq (X_seq (X_reg (XV rfl rfl rfl ?_)))))))
 refine XR_a (op_ptr_nil rfl rfl rfl) rfl rfl ?_
 refine XR_nil (X_else rfl (X_skip (X_seq ?_)))
 refine X_draw byKind (by kernel_rfl) (by kernel_rfl) ?_
 refine XV rfl rfl rfl (XR_a (op_nilCheck rfl) rfl rfl ?_)
 first | refine XR_a (op_field0 rfl rfl) rfl rfl ?_ | refine XR_a (op_fieldn rfl rfl) rfl rfl ?_
 refine XR_a (op_ld (by first | assumption | exact st.cell 0 rfl rfl | exact st.cell 1 rfl rfl | exact st.cell 2 rfl rfl | exact st.cell 3 rfl rfl) rfl rfl rfl) rfl rfl ?_
 refine XR_a (op_len rfl rfl rfl) rfl rfl ?_
 refine XV rfl rfl rfl (XR_a (op_nilCheck rfl) rfl rfl ?_)
 first | refine XR_a (op_field0 rfl rfl) rfl rfl ?_ | refine XR_a (op_fieldn rfl rfl) rfl rfl ?_
 refine XR_a (op_ld (by first | assumption | exact st.cell 0 rfl rfl | exact st.cell 1 rfl rfl | exact st.cell 2 rfl rfl | exact st.cell 3 rfl rfl) rfl rfl rfl) rfl rfl ?_
 first | refine XR_a (op_subN rfl rfl (by omega) (by simp only [inK]; omega)) rfl rfl ?_ | refine XR_a (op_subI rfl rfl (by simp only [inK]; omega)) rfl rfl ?_ | refine XR_a (op_sub rfl rfl) rfl rfl ?_
 refine XA rfl rfl rfl (XR_nil ?_)
 refine X_ret (.cons (.tmp rfl) .nil) ?_
 exact ⟨rfl, rfl⟩
theorem fnum_spec {B p m c a : Nat} {k : Int} {A : Option Addr} {l : List UInt8} {F : List Res} {h0 : Heap} (st : St B h0 h0 (fdG p A m c a false :: F)) (hr : Rd h0 A (l.map byteV)) (hl : l.length = m) (hm : m ≤ 1099511627776) (ha : a ≤ m) :
  Ret Tryz.prog 91 [.pointer (some ⟨p, 0, none⟩), .int .i64 k] h0 fun v h' =>
   v = .int .u32 (((getF l a k).getD 0 : Nat) : Int) ∧ St B h0 h' (fdG p A m c (if (getF l a k).isSome = true then a + wid k else a) (!(getF l a k).isSome) :: F) := by
 have hw := wid_le k
 refine ret_of_X Tryz.func91 rfl rfl fun w0 hw0 => ?_
 simp only [argE, Nat.zero_add, Nat.reduceAdd]
 refine X_seq (X_reg (XA rfl rfl rfl (XR_nil (X_seq (X_seq (X_reg (XV rfl rfl rfl ?_)))))))
 refine XR_wa (opl_call (fok_spec (st.cell 0 rfl rfl)) rfl (by kernel_rfl)) rfl rfl rfl ?_
 rintro _ _ ⟨rfl, rfl⟩
 refine XR_a (op_not rfl) rfl rfl ?_
 refine XR_nil (X_else rfl (X_skip (X_seq ?_)))
 refine X_draw byKind (by kernel_rfl) (by kernel_rfl) ?_
 refine XV rfl rfl rfl (XR_a (op_nilCheck rfl) rfl rfl ?_)
 first | refine XR_a (op_field0 rfl rfl) rfl rfl ?_ | refine XR_a (op_fieldn rfl rfl) rfl rfl ?_
 refine XR_a (op_ld (by first | assumption | exact st.cell 0 rfl rfl | exact st.cell 1 rfl rfl | exact st.cell 2 rfl rfl | exact st.cell 3 rfl rfl) rfl rfl rfl) rfl rfl ?_
 refine XV rfl rfl rfl (XR_a (op_nilCheck rfl) rfl rfl ?_)
 first | refine XR_a (op_field0 rfl rfl) rfl rfl ?_ | refine XR_a (op_fieldn rfl rfl) rfl rfl ?_
 refine XR_a (op_ld (by first | assumption | exact st.cell 0 rfl rfl | exact st.cell 1 rfl rfl | exact st.cell 2 rfl rfl | exact st.cell 3 rfl rfl) rfl rfl rfl) rfl rfl ?_
 refine XV rfl rfl rfl ?_
 refine XR_wa (opl_call (fget_spec hr hl (by omega) (by simp only [inK]; omega)) rfl (by kernel_rfl)) rfl rfl rfl ?_
 rintro _ _ ⟨rfl, rfl⟩
 refine XV rfl rfl rfl (XR_a (op_extract rfl rfl) rfl rfl (XR_a (op_extract rfl rfl) rfl rfl ?_))
 by_cases hg : (getF l a k).isSome = true
 ·refine XR_as (.bool true) (congrArg Value.bool hg) ?_
  refine XA rfl rfl rfl (XA rfl rfl rfl (XR_nil (X_seq (X_seq (X_reg (XV rfl rfl rfl ?_))))))
  refine XR_a (op_not rfl) rfl rfl ?_
  refine XR_nil (X_else rfl (X_skip (X_seq ?_)))
  refine X_draw (butAt [(5, .grow)]) (by kernel_rfl) (by kernel_rfl) ?_
  refine XV rfl rfl rfl (XR_a (op_nilCheck rfl) rfl rfl ?_)
  first | refine XR_a (op_field0 rfl rfl) rfl rfl ?_ | refine XR_a (op_fieldn rfl rfl) rfl rfl ?_
  refine XR_a (op_ld (by first | assumption | exact st.cell 0 rfl rfl | exact st.cell 1 rfl rfl | exact st.cell 2 rfl rfl | exact st.cell 3 rfl rfl) rfl rfl rfl) rfl rfl ?_
  refine XV rfl rfl rfl ?_
  refine XR_ga (opl_call (fwidth_spec _ _) rfl (by kernel_rfl)) rfl rfl rfl (fun _ _ h => h.2 ▸ Low.refl _ _) ?_
  rintro _ _ ⟨rfl, rfl⟩
  first | refine XR_a (op_addN rfl rfl (by simp only [inK]; omega)) rfl rfl ?_ | refine XR_a (op_addI rfl rfl (by simp only [inK]; omega)) rfl rfl ?_ | refine XR_a (op_add rfl rfl) rfl rfl ?_
  refine XR_a (op_nilCheck rfl) rfl rfl ?_
  first | refine XR_a (op_field0 rfl rfl) rfl rfl ?_ | refine XR_a (op_fieldn rfl rfl) rfl rfl ?_
  refine XR_wn (opl_store_pt st 0 rfl rfl rfl rfl rfl (rfl)) rfl rfl fun _ hp st => ?_
  simp only [List.set_cons_zero, List.set_cons_succ] at st
  refine XR_nil (X_seq (X_reg (XV rfl rfl rfl (XA rfl rfl rfl (XR_nil ?_)))))
  refine X_ret (.cons (.tmp rfl) .nil) ?_
  rw [if_pos hg, hg]
  exact ⟨rfl, st⟩
 ·refine XR_as (.bool false) (congrArg Value.bool (by simpa using hg)) ?_
  refine XA rfl rfl rfl (XA rfl rfl rfl (XR_nil (X_seq (X_seq (X_reg (XV rfl rfl rfl ?_))))))
  refine XR_a (op_not rfl) rfl rfl ?_
  refine XR_nil (X_then rfl (X_seq (X_reg (XV rfl rfl rfl (XR_a (op_nilCheck rfl) rfl rfl ?_)))))
  first | refine XR_a (op_field0 rfl rfl) rfl rfl ?_ | refine XR_a (op_fieldn rfl rfl) rfl rfl ?_
  refine XR_wn (opl_store_pt st 0 rfl rfl rfl rfl rfl (rfl)) rfl rfl fun _ hp st => ?_
  simp only [List.set_cons_zero, List.set_cons_succ] at st
  refine XR_nil (X_seq (X_reg (XA rfl rfl rfl (XR_nil ?_))))
  refine X_ret (.cons (.tmp rfl) .nil) ?_
  rw [Option.not_isSome_iff_eq_none] at hg
  rw [hg]
  exact ⟨rfl, st⟩
theorem fbytes_bad {p : Nat} {k : Value} {h0 : Heap} (c2 : cellH h0 ⟨p, 2, none⟩ = some (.bool true)) : Ret Tryz.prog 92 [.pointer (some ⟨p, 0, none⟩), k] h0 fun v h' => v = .slice none 0 0 ∧ h0 = h' := by
 refine ret_of_X Tryz.func92 rfl rfl fun w0 hw0 => ?_
 simp only [argE, Nat.zero_add, Nat.reduceAdd]
 refine X_seq (X_reg (XA rfl rfl rfl (XR_nil (X_seq (X_seq (X_reg (XV rfl rfl rfl ?_)))))))
 refine XR_wa (opl_call (fok_spec c2) rfl (by kernel_rfl)) rfl rfl rfl ?_
 rintro _ _ ⟨rfl, rfl⟩
 refine XR_a (op_not rfl) rfl rfl ?_
 refine XR_nil (X_then rfl (X_seq (X_reg (XA rfl rfl rfl (XR_nil ?_)))))
 refine X_ret (.cons (.tmp rfl) .nil) ?_
 exact ⟨rfl, rfl⟩
theorem fbytes_ok {B p m c a n : Nat} {A : Option Addr} {l : List UInt8} {F : List Res} {h0 : Heap} (st : St B h0 h0 (fdG p A m c a false :: F)) (hr : Rd h0 A (l.map byteV)) (hl : l.length = m) (hm : m ≤ 1099511627776) (hmc : m ≤ c) (hn : n + a ≤ m) :
  Ret Tryz.prog 92 [.pointer (some ⟨p, 0, none⟩), .int .i64 (n : Int)] h0 fun v h' => St B h0 h' (fdG p A m c (a + n) false :: row 5 1 v (((l.drop a).take n).map byteV) :: F) := by
 refine ret_of_X Tryz.func92 rfl rfl fun w0 hw0 => ?_
 simp only [argE, Nat.zero_add, Nat.reduceAdd]
 refine X_seq (X_reg (XA rfl rfl rfl (XR_nil (X_seq (X_seq (X_reg (XV rfl rfl rfl ?_)))))))
 refine XR_wa (opl_call (fok_spec (st.cell 0 rfl rfl)) rfl (by kernel_rfl)) rfl rfl rfl ?_
 rintro _ _ ⟨rfl, rfl⟩
 refine XR_a (op_not rfl) rfl rfl ?_
 refine XR_nil (X_else rfl (X_skip (X_seq (X_seq ?_))))
 refine X_draw byKind (by kernel_rfl) (by kernel_rfl) ?_
 refine XV rfl rfl rfl ?_
 refine XR_a (op_lss rfl rfl) rfl rfl ?_
 refine XR_as (.bool false) (congrArg Value.bool (decide_eq_false (by omega))) ?_
 refine XV rfl rfl rfl (XV rfl rfl rfl (XV rfl rfl rfl (XR_a (op_nilCheck rfl) rfl rfl ?_)))
 first | refine XR_a (op_field0 rfl rfl) rfl rfl ?_ | refine XR_a (op_fieldn rfl rfl) rfl rfl ?_
 refine XR_a (op_ld (by first | assumption | exact st.cell 0 rfl rfl | exact st.cell 1 rfl rfl | exact st.cell 2 rfl rfl | exact st.cell 3 rfl rfl) rfl rfl rfl) rfl rfl ?_
 refine XR_a (op_len rfl rfl rfl) rfl rfl ?_
 refine XV rfl rfl rfl (XR_a (op_nilCheck rfl) rfl rfl ?_)
 first | refine XR_a (op_field0 rfl rfl) rfl rfl ?_ | refine XR_a (op_fieldn rfl rfl) rfl rfl ?_
 refine XR_a (op_ld (by first | assumption | exact st.cell 0 rfl rfl | exact st.cell 1 rfl rfl | exact st.cell 2 rfl rfl | exact st.cell 3 rfl rfl) rfl rfl rfl) rfl rfl ?_
 first | refine XR_a (op_subN rfl rfl (by omega) (by simp only [inK]; omega)) rfl rfl ?_ | refine XR_a (op_subI rfl rfl (by simp only [inK]; omega)) rfl rfl ?_ | refine XR_a (op_sub rfl rfl) rfl rfl ?_
 refine XR_a (op_gtr rfl rfl) rfl rfl ?_
 refine XR_as (.bool false) (congrArg Value.bool (decide_eq_false (by omega))) ?_
 refine XR_a (op_pick_f rfl rfl) rfl rfl (XR_nil (X_else rfl (X_skip (X_seq (X_reg (XV rfl rfl rfl ?_))))))
 refine XR_wa (opl_mk (by omega) rfl rfl rfl) rfl rfl rfl ?_
 rintro v hp hnew
 have hxx := hnew.1
 replace st := st.new hnew
 obtain ⟨A2, n2, c2, rfl, hlen2, _, _, _⟩ := st.row 0 rfl
 have hn2 : n2 = n := by simpa using hlen2.symm
 subst hn2
 have hcut := (hr.ext hxx).cut a 1 c (m - a) (by intro hh; simp; omega)
 rw [Nat.mul_one, ← List.map_drop, ← List.map_take, List.take_of_length_le (i := m - a) (by rw [List.length_drop]; omega)] at hcut
 refine XA rfl rfl rfl (XR_nil (X_seq ?_))
 refine X_draw byKind (by kernel_rfl) (by kernel_rfl) ?_
 refine XV rfl rfl rfl (XV rfl rfl rfl (XR_a (op_nilCheck rfl) rfl rfl ?_))
 first | refine XR_a (op_field0 rfl rfl) rfl rfl ?_ | refine XR_a (op_fieldn rfl rfl) rfl rfl ?_
 refine XR_a (op_ld (by first | assumption | exact st.cell 0 rfl rfl | exact st.cell 1 rfl rfl | exact st.cell 2 rfl rfl | exact st.cell 3 rfl rfl) rfl rfl rfl) rfl rfl ?_
 refine XV rfl rfl rfl (XR_a (op_nilCheck rfl) rfl rfl ?_)
 first | refine XR_a (op_field0 rfl rfl) rfl rfl ?_ | refine XR_a (op_fieldn rfl rfl) rfl rfl ?_
 refine XR_a (op_ld (by first | assumption | exact st.cell 0 rfl rfl | exact st.cell 1 rfl rfl | exact st.cell 2 rfl rfl | exact st.cell 3 rfl rfl) rfl rfl rfl) rfl rfl ?_
 refine XR_a (op_slice_l rfl rfl rfl (by omega) (by omega)) rfl rfl ?_
 refine XR_wa (opl_copyW st 0 rfl hcut (by simp [hl]) (by simp) (one_bytes _) rfl rfl rfl rfl) rfl rfl rfl ?_
 rintro _ hp ⟨rfl, st⟩
 simp only [List.set_cons_zero, List.set_cons_succ, Nat.mul_one] at st
 rw [Nat.min_eq_right (by omega), show (List.replicate n2 (Value.int IntKind.u8 0)).drop n2 = [] by simp, List.append_nil, ← List.map_take] at st
 refine XR_nil (X_seq (X_reg (XV rfl rfl rfl (XR_a (op_nilCheck rfl) rfl rfl ?_))))
 first | refine XR_a (op_field0 rfl rfl) rfl rfl ?_ | refine XR_a (op_fieldn rfl rfl) rfl rfl ?_
 refine XR_a (op_ld (by first | assumption | exact st.cell 0 rfl rfl | exact st.cell 1 rfl rfl | exact st.cell 2 rfl rfl | exact st.cell 3 rfl rfl) rfl rfl rfl) rfl rfl ?_
 refine XV rfl rfl rfl ?_
 first | refine XR_a (op_addN rfl rfl (by simp only [inK]; omega)) rfl rfl ?_ | refine XR_a (op_addI rfl rfl (by simp only [inK]; omega)) rfl rfl ?_ | refine XR_a (op_add rfl rfl) rfl rfl ?_
 refine XR_a (op_nilCheck rfl) rfl rfl ?_
 first | refine XR_a (op_field0 rfl rfl) rfl rfl ?_ | refine XR_a (op_fieldn rfl rfl) rfl rfl ?_
 refine XR_wn (opl_store_pt st 1 rfl rfl rfl rfl rfl (rfl)) rfl rfl fun _ hp st => ?_
 simp only [List.set_cons_zero, List.set_cons_succ] at st
 refine XR_nil (X_seq (X_reg (XV rfl rfl rfl (XA rfl rfl rfl (XR_nil ?_)))))
 refine X_ret (.cons (.tmp rfl) .nil) ?_
 exact st.perm (List.Perm.swap _ _ _)
theorem fnum_at {B p m c a n : Nat} (a' : Nat) {k : Int} {A : Option Addr} {l : List UInt8} {F : List Res} {h0 : Heap} (st : St B h0 h0 (fdG p A m c a false :: F)) (hr : Rd h0 A (l.map byteV)) (hl : l.length = m) (hm : m ≤ 1099511627776) (ha : a ≤ m) (hg : getF l a k = some n) (ha' : a + wid k = a') :
  Ret Tryz.prog 91 [.pointer (some ⟨p, 0, none⟩), .int .i64 k] h0 fun v h' => v = .int .u32 (n : Int) ∧ St B h0 h' (fdG p A m c a' false :: F) := by
 have h := fnum_spec (k := k) st hr hl hm ha
 rw [hg] at h
 simp only [Option.isSome_some, if_true, Option.getD_some, Bool.not_true, ha'] at h
 exact h
theorem getF_at {l : List UInt8} {a : Nat} {k : Int} (h : a + wid k ≤ l.length) : getF l (a : Int) k = some (leV ((l.drop a).take (wid k))) := by
 unfold getF
 rw [if_pos (by omega)]; simp
end Go.Bn
end

section
set_option linter.unusedVariables false
set_option linter.unusedSimpArgs false
set_option maxHeartbeats 4000000
set_option maxRecDepth 20000
namespace Go.Bn
open Go Proofs
theorem wid2 : wid 2 = 2 := rfl
theorem fnum_fail {B p m c a : Nat} {k : Int} {A : Option Addr} {l : List UInt8} {F : List Res} {h0 : Heap} (st : St B h0 h0 (fdG p A m c a false :: F)) (hr : Rd h0 A (l.map byteV)) (hl : l.length = m) (hm : m ≤ 1099511627776) (ha : a ≤ m) (hg : getF l a k = none) :
  Ret Tryz.prog 91 [.pointer (some ⟨p, 0, none⟩), .int .i64 k] h0 fun v h' => v = .int .u32 0 ∧ St B h0 h' (fdG p A m c a true :: F) := by
 have h := fnum_spec (k := k) st hr hl hm ha
 rw [hg] at h
 exact h
theorem getF_short {l : List UInt8} {a : Nat} {k : Int} (h : l.length < a + wid k) : getF l (a : Int) k = none := by
 unfold getF
 rw [if_neg (by omega)]
theorem fbytes_long {B p m c a n : Nat} {A : Option Addr} {F : List Res} {h0 : Heap} (st : St B h0 h0 (fdG p A m c a false :: F)) (hm : m ≤ 1099511627776) (ha : a ≤ m) (hn : m < a + n) :
  Ret Tryz.prog 92 [.pointer (some ⟨p, 0, none⟩), .int .i64 (n : Int)] h0 fun v h' => v = .slice none 0 0 ∧ St B h0 h' (fdG p A m c a true :: F) := by
 refine ret_of_X Tryz.func92 rfl rfl fun w0 hw0 => ?_
 simp only [argE, Nat.zero_add, Nat.reduceAdd]
 refine X_seq (X_reg (XA rfl rfl rfl (XR_nil (X_seq (X_seq (X_reg (XV rfl rfl rfl ?_)))))))
 refine XR_wa (opl_call (fok_spec (st.cell 0 rfl rfl)) rfl (by kernel_rfl)) rfl rfl rfl ?_
 rintro _ _ ⟨rfl, rfl⟩
 refine XR_a (op_not rfl) rfl rfl ?_
 refine XR_nil (X_else rfl (X_skip (X_seq (X_seq ?_))))
 refine X_draw byKind (by kernel_rfl) (by kernel_rfl) ?_
 refine XV rfl rfl rfl ?_
 refine XR_a (op_lss rfl rfl) rfl rfl ?_
 refine XR_as (.bool false) (congrArg Value.bool (decide_eq_false (by omega))) ?_
 refine XV rfl rfl rfl (XV rfl rfl rfl (XV rfl rfl rfl (XR_a (op_nilCheck rfl) rfl rfl ?_)))
 first | refine XR_a (op_field0 rfl rfl) rfl rfl ?_ | refine XR_a (op_fieldn rfl rfl) rfl rfl ?_
 refine XR_a (op_ld (by first | assumption | exact st.cell 0 rfl rfl | exact st.cell 1 rfl rfl | exact st.cell 2 rfl rfl | exact st.cell 3 rfl rfl) rfl rfl rfl) rfl rfl ?_
 refine XR_a (op_len rfl rfl rfl) rfl rfl ?_
 refine XV rfl rfl rfl (XR_a (op_nilCheck rfl) rfl rfl ?_)
 first | refine XR_a (op_field0 rfl rfl) rfl rfl ?_ | refine XR_a (op_fieldn rfl rfl) rfl rfl ?_
 refine XR_a (op_ld (by first | assumption | exact st.cell 0 rfl rfl | exact st.cell 1 rfl rfl | exact st.cell 2 rfl rfl | exact st.cell 3 rfl rfl) rfl rfl rfl) rfl rfl ?_
 first | refine XR_a (op_subN rfl rfl (by omega) (by simp only [inK]; omega)) rfl rfl ?_ | refine XR_a (op_subI rfl rfl (by simp only [inK]; omega)) rfl rfl ?_ | refine XR_a (op_sub rfl rfl) rfl rfl ?_
 refine XR_a (op_gtr rfl rfl) rfl rfl ?_
 refine XR_as (.bool true) (congrArg Value.bool (decide_eq_true (by omega))) ?_
 refine XR_a (op_pick_f rfl rfl) rfl rfl (XR_nil (X_then rfl (X_seq (X_reg (XV rfl rfl rfl (XR_a (op_nilCheck rfl) rfl rfl ?_))))))
 first | refine XR_a (op_field0 rfl rfl) rfl rfl ?_ | refine XR_a (op_fieldn rfl rfl) rfl rfl ?_
 refine XR_wn (opl_store_pt st 0 rfl rfl rfl rfl rfl (rfl)) rfl rfl fun _ hp st => ?_
 simp only [List.set_cons_zero, List.set_cons_succ] at st
 refine XR_nil (X_seq (X_reg (XA rfl rfl rfl (XR_nil ?_))))
 refine X_ret (.cons (.tmp rfl) .nil) ?_
 exact ⟨rfl, st⟩
theorem pieces_spec {m c : Nat} {A : Option Addr} {l : List UInt8} {h0 : Heap} (hr : Rd h0 A (l.map byteV)) (hl : l.length = m) (hm : m ≤ 1099511627776) (hmc : m ≤ c) :
    Ret Tryz.prog 54 [.slice A m c] h0 fun v h' => ∃ v1, v = retVal [v1, .int .i64 (pieces l).2] ∧ St h0.size h0 h' [row 5 1 v1 ((pieces l).1.map byteV)] := by
  have hp0 : piecesF (m - 0 + 1) (l.drop 0) [] = pieces l := by rw [← hl]; rfl
  refine ret_of_X Tryz.func54 rfl rfl fun w0 hw0 => ?_
  simp only [argE, Nat.zero_add, Nat.reduceAdd]
  refine X_seq ?_
  refine X_reg ?_
  refine XR_a (op_assign rfl) rfl rfl ?_
  refine XR_a (op_assign rfl) rfl rfl ?_
  refine XR_nil ?_
  refine X_seq ?_
  refine X_reg ?_
  refine XR_a (op_move rfl) rfl rfl ?_
  refine XR_wa (opl_call (fnew_spec) rfl (by kernel_rfl)) rfl rfl rfl ?_
  rintro _ hp ⟨pr, rfl, st⟩
  refine XR_a (op_assign rfl) rfl rfl ?_
  refine XR_nil ?_
  refine X_seq ?_
  refine X_reg ?_
  refine XR_a (op_assign rfl) rfl rfl ?_
  refine XR_nil ?_
  refine X_block ?_
  replace st := st.nilrow 5 1
  refine X_loop (fun s => m - s.1) (fun s => [(4, .pointer (some ⟨pr, 0, none⟩)), (5, s.2.1)])
    (fun (s : Nat × Value × List UInt8) hp => St h0.size h0 hp [row 5 1 s.2.1 (s.2.2.map byteV), fdG pr A m c s.1 false] ∧ s.1 ≤ m ∧ s.2.2.length ≤ s.1 ∧ piecesF (m - s.1 + 1) (l.drop s.1) s.2.2 = pieces l)
    (0, _, []) (.cons rfl (.cons rfl (.nil _))) ⟨st, by simp, by simp, hp0⟩ ?_
  clear st hp0
  rintro ⟨a, v, out⟩ hp ⟨st, ha, hout, hpp⟩
  simp only at st ha hout hpp ⊢
  replace st := st.perm (List.Perm.swap _ _ _)
  refine X_block ?_
  refine X_seq ?_
  refine X_reg ?_
  refine XR_a (op_move rfl) rfl rfl ?_
  by_cases h2 : a + 2 ≤ m
  · refine XR_wa (opl_call (fnum_at (a + 2) (n := leV ((l.drop a).take 2)) st.here (hr.ext st.low) hl hm ha (getF_at (by rw [wid2, hl]; exact h2)) (by rw [wid2])) rfl (by kernel_rfl)) rfl rfl rfl ?_
    rintro _ hp ⟨rfl, st2⟩
    replace st := st.trans st2
    have hn16 : leV ((l.drop a).take 2) < 65536 := Nat.lt_of_lt_of_le (leV_lt _) (Nat.le_trans (Nat.pow_le_pow_right (by omega) (show _ ≤ 2 by rw [List.length_take]; omega)) (by decide))
    have hstep := piecesF_step (out := out) (n := leV ((l.drop a).take 2)) hl h2 rfl
    have hlong := piecesF_long (out := out) (n := leV ((l.drop a).take 2)) hl h2 rfl
    have hmore := fun q => piecesF_more (out := out) (a := a) hl q
    have hdone := fun q => piecesF_done (out := out) (a := a) hl q
    generalize leV ((l.drop a).take 2) = n at *
    first | refine XR_a (op_convI rfl rfl (by simp only [inK]; omega)) rfl rfl ?_ | refine XR_a (op_conv rfl rfl) rfl rfl ?_
    refine XR_a (op_assign rfl) rfl rfl ?_
    refine XR_nil ?_
    refine X_seq ?_
    refine X_reg ?_
    refine XR_a (op_move rfl) rfl rfl ?_
    refine XR_a (op_move rfl) rfl rfl ?_
    by_cases h3 : a + 2 + n ≤ m
    · refine XR_wa (opl_call (fbytes_ok (n := n) st.here (hr.ext st.low) hl hm hmc (by omega)) rfl (by kernel_rfl)) rfl rfl rfl ?_
      rintro w hp st2
      replace st := st.trans st2
      obtain ⟨A7, n7, c7, rfl, hlen7, _, _, hrd7⟩ := st.row 1 rfl
      refine XR_a (op_assign rfl) rfl rfl ?_
      refine XR_nil ?_
      refine X_seq ?_
      refine X_block ?_
      refine X_seq ?_
      refine X_reg ?_
      refine XR_a (op_move rfl) rfl rfl ?_
      refine XR_wa (opl_call (fok_spec (st.cell 0 rfl rfl)) rfl (by kernel_rfl)) rfl rfl rfl ?_
      rintro _ _ ⟨rfl, rfl⟩
      refine XR_a (op_not rfl) rfl rfl ?_
      refine XR_a (op_assign rfl) rfl rfl ?_
      refine XR_nil ?_
      refine X_else rfl ?_
      refine X_seq ?_
      refine X_reg ?_
      refine XR_a (op_move rfl) rfl rfl ?_
      refine XR_a (op_eql rfl rfl) rfl rfl ?_
      refine XR_a (op_move rfl) rfl rfl ?_
      refine XR_if 23 rfl (fun h => ?_) (fun h => ?_)
      · refine XR_a (op_move rfl) rfl rfl ?_
        refine XR_wa (opl_call (fleft_spec (st.cell 0 rfl rfl) (st.cell 0 rfl rfl) hm (by omega)) rfl (by kernel_rfl)) rfl rfl rfl ?_
        rintro _ _ ⟨rfl, rfl⟩
        refine XR_a (op_gtr rfl rfl) rfl rfl ?_
        refine XR_a (op_pick_t rfl rfl) rfl rfl ?_
        refine XR_a (op_assign rfl) rfl rfl ?_
        refine XR_nil ?_
        refine X_if rfl (fun h => ?_) (fun h => ?_)
        · refine X_seq ?_
          refine X_reg ?_
          refine XR_a (op_assign rfl) rfl rfl ?_
          refine XR_a (op_assign rfl) rfl rfl ?_
          refine XR_nil ?_
          refine X_ret (.cons (.tmp rfl) (.cons (.tmp rfl) .nil)) ?_
          rw [hmore (by omega) (by omega)] at hpp
          refine ⟨_, by rw [← hpp], ?_⟩
          rw [← hpp]
          exact (st.nilrow 5 1).only
        · refine X_seq ?_
          refine X_reg ?_
          refine XR_a (op_move rfl) rfl rfl ?_
          refine XR_a (op_eql rfl rfl) rfl rfl ?_
          refine XR_a (op_assign rfl) rfl rfl ?_
          refine XR_nil ?_
          refine X_if rfl (fun h => ?_) (fun h => ?_)
          · refine X_seq ?_
            refine X_reg ?_
            refine XR_a (op_move rfl) rfl rfl ?_
            refine XR_a (op_assign rfl) rfl rfl ?_
            refine XR_a (op_assign rfl) rfl rfl ?_
            refine XR_nil ?_
            refine X_ret (.cons (.tmp rfl) (.cons (.tmp rfl) .nil)) ?_
            first
              | (exfalso; omega)
              | (rw [hdone (by omega) (by omega)] at hpp
                 refine ⟨_, by rw [← hpp], ?_⟩
                 rw [← hpp]
                 exact st.tail.tail)
          · refine X_skip ?_
            refine X_blk ?_
            refine X_reg ?_
            refine XR_a (op_move rfl) rfl rfl ?_
            refine XR_a (op_move rfl) rfl rfl ?_
            refine XR_wa (opl_append st 2 rfl (hrd7) (hlen7) (one_bytes _) (by simp; omega) rfl rfl rfl rfl rfl rfl rfl) rfl rfl rfl fun v hp st => ?_
            simp only [List.set_cons_zero, List.set_cons_succ] at st
            refine XR_a (op_assign rfl) rfl rfl ?_
            refine XR_nil ?_
            refine X_blk ?_
            rw [hstep h3 (by omega)] at hpp
            rw [← List.map_append] at st
            refine X_again (a + 2 + n, v, out ++ (l.drop (a + 2)).take n) (.cons rfl (.cons rfl (.nil _))) ⟨(st.perm (List.Perm.swap _ _ _)).tail.perm (List.Perm.swap _ _ _), h3, ?_, hpp⟩ (by simp only; omega)
            simp only [List.length_append, List.length_take]
            omega
      · refine XR_no rfl rfl ?_
        refine XR_no rfl rfl ?_
        refine XR_no rfl rfl ?_
        refine XR_a (op_pick_f rfl rfl) rfl rfl ?_
        refine XR_a (op_assign rfl) rfl rfl ?_
        refine XR_nil ?_
        refine X_else rfl ?_
        refine X_seq ?_
        refine X_reg ?_
        refine XR_a (op_move rfl) rfl rfl ?_
        refine XR_a (op_eql rfl rfl) rfl rfl ?_
        refine XR_a (op_assign rfl) rfl rfl ?_
        refine XR_nil ?_
        refine X_if rfl (fun h => ?_) (fun h => ?_)
        · refine X_seq ?_
          refine X_reg ?_
          refine XR_a (op_move rfl) rfl rfl ?_
          refine XR_a (op_assign rfl) rfl rfl ?_
          refine XR_a (op_assign rfl) rfl rfl ?_
          refine XR_nil ?_
          refine X_ret (.cons (.tmp rfl) (.cons (.tmp rfl) .nil)) ?_
          first
            | (exfalso; omega)
            | (rw [hdone (by omega) (by omega)] at hpp
               refine ⟨_, by rw [← hpp], ?_⟩
               rw [← hpp]
               exact st.tail.tail)
        · refine X_skip ?_
          refine X_blk ?_
          refine X_reg ?_
          refine XR_a (op_move rfl) rfl rfl ?_
          refine XR_a (op_move rfl) rfl rfl ?_
          refine XR_wa (opl_append st 2 rfl (hrd7) (hlen7) (one_bytes _) (by simp; omega) rfl rfl rfl rfl rfl rfl rfl) rfl rfl rfl fun v hp st => ?_
          simp only [List.set_cons_zero, List.set_cons_succ] at st
          refine XR_a (op_assign rfl) rfl rfl ?_
          refine XR_nil ?_
          refine X_blk ?_
          rw [hstep h3 (by omega)] at hpp
          rw [← List.map_append] at st
          refine X_again (a + 2 + n, v, out ++ (l.drop (a + 2)).take n) (.cons rfl (.cons rfl (.nil _))) ⟨(st.perm (List.Perm.swap _ _ _)).tail.perm (List.Perm.swap _ _ _), h3, ?_, hpp⟩ (by simp only; omega)
          simp only [List.length_append, List.length_take]
          omega
    · refine XR_wa (opl_call (fbytes_long (n := n) st.here hm (by omega) (by omega)) rfl (by kernel_rfl)) rfl rfl rfl ?_
      rintro _ hp ⟨rfl, st2⟩
      replace st := st.trans st2
      refine XR_a (op_assign rfl) rfl rfl ?_
      refine XR_nil ?_
      refine X_seq ?_
      refine X_block ?_
      refine X_seq ?_
      refine X_reg ?_
      refine XR_a (op_move rfl) rfl rfl ?_
      refine XR_wa (opl_call (fok_spec (st.cell 0 rfl rfl)) rfl (by kernel_rfl)) rfl rfl rfl ?_
      rintro _ _ ⟨rfl, rfl⟩
      refine XR_a (op_not rfl) rfl rfl ?_
      refine XR_a (op_assign rfl) rfl rfl ?_
      refine XR_nil ?_
      refine X_then rfl ?_
      refine X_seq ?_
      refine X_reg ?_
      refine XR_a (op_assign rfl) rfl rfl ?_
      refine XR_a (op_assign rfl) rfl rfl ?_
      refine XR_nil ?_
      refine X_ret (.cons (.tmp rfl) (.cons (.tmp rfl) .nil)) ?_
      rw [hlong (by omega)] at hpp
      refine ⟨_, by rw [← hpp], ?_⟩
      rw [← hpp]
      exact (st.nilrow 5 1).only
  · refine XR_wa (opl_call (fnum_fail st.here (hr.ext st.low) hl hm ha (getF_short (by rw [wid2, hl]; omega))) rfl (by kernel_rfl)) rfl rfl rfl ?_
    rintro _ hp ⟨rfl, st2⟩
    replace st := st.trans st2
    first | refine XR_a (op_convI rfl rfl (by simp only [inK]; omega)) rfl rfl ?_ | refine XR_a (op_conv rfl rfl) rfl rfl ?_
    refine XR_a (op_assign rfl) rfl rfl ?_
    refine XR_nil ?_
    refine X_seq ?_
    refine X_reg ?_
    refine XR_a (op_move rfl) rfl rfl ?_
    refine XR_a (op_move rfl) rfl rfl ?_
    refine XR_wa (opl_call (fbytes_bad (st.cell 0 rfl rfl)) rfl (by kernel_rfl)) rfl rfl rfl ?_
    rintro _ _ ⟨rfl, rfl⟩
    refine XR_a (op_assign rfl) rfl rfl ?_
    refine XR_nil ?_
    refine X_seq ?_
    refine X_block ?_
    refine X_seq ?_
    refine X_reg ?_
    refine XR_a (op_move rfl) rfl rfl ?_
    refine XR_wa (opl_call (fok_spec (st.cell 0 rfl rfl)) rfl (by kernel_rfl)) rfl rfl rfl ?_
    rintro _ _ ⟨rfl, rfl⟩
    refine XR_a (op_not rfl) rfl rfl ?_
    refine XR_a (op_assign rfl) rfl rfl ?_
    refine XR_nil ?_
    refine X_then rfl ?_
    refine X_seq ?_
    refine X_reg ?_
    refine XR_a (op_assign rfl) rfl rfl ?_
    refine XR_a (op_assign rfl) rfl rfl ?_
    refine XR_nil ?_
    refine X_ret (.cons (.tmp rfl) (.cons (.tmp rfl) .nil)) ?_
    rw [piecesF_short hl (by omega) ha] at hpp
    refine ⟨_, by rw [← hpp], ?_⟩
    rw [← hpp]
    exact (st.nilrow 5 1).only
theorem pieces_ref {m c : Nat} {A : Option Addr} {l : List UInt8} {h0 : Heap} (hr : Rd h0 A (l.map byteV)) (hl : l.length = m) (hm : m ≤ 1099511627776) (hmc : m ≤ c) :
  Ret Tryz.prog 57 [.slice A m c] h0 fun v h' => ∃ v1, v = retVal [v1, .int .i64 (pieces l).2] ∧ St h0.size h0 h' [row 5 1 v1 ((pieces l).1.map byteV)] := by
 have hp0 : piecesF (m - 0 + 1) (l.drop 0) [] = pieces l := by rw [← hl]; rfl
 refine ret_of_X Tryz.func57 rfl rfl fun w0 hw0 => ?_
 simp only [argE, Nat.zero_add, Nat.reduceAdd]
 refine X_seq (X_reg (XA rfl rfl rfl (XA rfl rfl rfl (XR_nil (X_seq (X_reg (XA rfl rfl rfl (XR_nil (X_seq ?_)))))))))
 refine X_reg (XA rfl rfl rfl (XR_nil (X_seq (X_block ?_))))
 have st := (St.start h0).nilrow 5 1
 refine X_loop (fun s => m - s.1) (fun s => [(0, .slice A m c), (4, s.2.1), (5, .int .i64 (s.1 : Int))])
  (fun (s : Nat × Value × List UInt8) hp => St h0.size h0 hp [row 5 1 s.2.1 (s.2.2.map byteV)] ∧ s.1 ≤ m ∧ s.2.2.length ≤ s.1 ∧ piecesF (m - s.1 + 1) (l.drop s.1) s.2.2 = pieces l)
  (0, _, []) (.cons rfl (.cons rfl (.cons rfl (.nil _)))) ⟨st, by simp, by simp, hp0⟩ ?_
 clear st hp0
 rintro ⟨a, v, out⟩ hp ⟨st, ha, hout, hpp⟩
 simp only at st ha hout hpp ⊢
 refine X_seq (X_seq (X_reg (XV rfl rfl rfl ?_)))
 refine XR_a (op_len rfl rfl rfl) rfl rfl ?_
 refine XV rfl rfl rfl ?_
 first | refine XR_a (op_subN rfl rfl (by omega) (by simp only [inK]; omega)) rfl rfl ?_ | refine XR_a (op_subI rfl rfl (by simp only [inK]; omega)) rfl rfl ?_ | refine XR_a (op_sub rfl rfl) rfl rfl ?_
 refine XR_a (op_geq rfl rfl) rfl rfl ?_
 refine XR_nil ?_
 refine X_if rfl (fun h => ?_) (fun h => ?_)
 ·have h2 : a + 2 ≤ m := by omega
  obtain ⟨b, o, rfl, hc⟩ := (hr.ext st.low).at_ (by rw [List.length_map]; omega)
  have hca := hc a (byteV l[a]) (by simp [show a < l.length by omega])
  have hcb := hc (a + 1) (byteV l[a + 1]) (by simp [show a + 1 < l.length by omega])
  have hn2 := leV2 (l := l) (a := a) (by omega)
  have xa := (l[a]).toNat_lt
  have xb := (l[a + 1]).toNat_lt
  have hstep := piecesF_step (out := out) (n := leV ((l.drop a).take 2)) hl h2 rfl
  have hlong := piecesF_long (out := out) (n := leV ((l.drop a).take 2)) hl h2 rfl
  have hmore := fun q => piecesF_more (out := out) (a := a) hl q
  have hdone := fun q => piecesF_done (out := out) (a := a) hl q
  generalize leV ((l.drop a).take 2) = n at *
  generalize l[a] = ya at *
  generalize l[a + 1] = yb at *
  refine X_skip (X_block (X_seq ?_))
  refine X_draw byKind (by kernel_rfl) (by kernel_rfl) ?_
  refine XV rfl rfl rfl (XV rfl rfl rfl ?_)
  first | refine XR_a (op_index1 rfl rfl rfl (by omega)) rfl rfl ?_ | refine XR_a (op_index rfl rfl rfl (by omega)) rfl rfl ?_
  refine XR_a (op_ld (hca) rfl rfl rfl) rfl rfl ?_
  first | refine XR_a (op_convI rfl rfl (by simp only [inK]; omega)) rfl rfl ?_ | refine XR_a (op_conv rfl rfl) rfl rfl ?_
  refine XV rfl rfl rfl (XV rfl rfl rfl ?_)
  first | refine XR_a (op_addN (n := 1) rfl rfl (by simp only [inK]; omega)) rfl rfl ?_ | refine XR_a (op_addI rfl rfl (by simp only [inK]; omega)) rfl rfl ?_ | refine XR_a (op_add rfl rfl) rfl rfl ?_
  first | refine XR_a (op_index1 rfl rfl rfl (by omega)) rfl rfl ?_ | refine XR_a (op_index rfl rfl rfl (by omega)) rfl rfl ?_
  refine XR_a (op_ld (hcb) rfl rfl rfl) rfl rfl ?_
  first | refine XR_a (op_convI rfl rfl (by simp only [inK]; omega)) rfl rfl ?_ | refine XR_a (op_conv rfl rfl) rfl rfl ?_
  refine XR_a (op_mulN (m := 256) rfl rfl (by simp only [inK]; omega)) rfl rfl ?_
  first | refine XR_a (op_addN rfl rfl (by simp only [inK]; omega)) rfl rfl ?_ | refine XR_a (op_addI rfl rfl (by simp only [inK]; omega)) rfl rfl ?_ | refine XR_a (op_add rfl rfl) rfl rfl ?_
  rw [← hn2]
  refine XA rfl rfl rfl (XR_nil (X_seq (X_reg (XV rfl rfl rfl ?_))))
  first | refine XR_a (op_addN (n := 2) rfl rfl (by simp only [inK]; omega)) rfl rfl ?_ | refine XR_a (op_addI rfl rfl (by simp only [inK]; omega)) rfl rfl ?_ | refine XR_a (op_add rfl rfl) rfl rfl ?_
  refine XA rfl rfl rfl (XR_nil (X_seq (X_seq (X_reg (XV rfl rfl rfl ?_)))))
  refine XR_a (op_eql rfl rfl) rfl rfl ?_
  refine XR_nil ?_
  refine X_if rfl (fun h => ?_) (fun h => ?_)
  ·refine X_seq (X_seq (X_reg (XV rfl rfl rfl (XV rfl rfl rfl ?_))))
   refine XR_a (op_len rfl rfl rfl) rfl rfl ?_
   refine XR_a (op_lss rfl rfl) rfl rfl ?_
   refine XR_nil ?_
   refine X_if rfl (fun h => ?_) (fun h => ?_)
   ·refine X_seq (X_reg (XA rfl rfl rfl (XA rfl rfl rfl (XR_nil ?_))))
    refine X_ret (.cons (.tmp rfl) (.cons (.tmp rfl) .nil)) ?_
    rw [hmore (by omega) (by omega)] at hpp
    refine ⟨_, by rw [← hpp], ?_⟩
    rw [← hpp]
    exact (st.nilrow 5 1).only
   ·refine X_skip (X_seq (X_reg (XV rfl rfl rfl (XA rfl rfl rfl (XA rfl rfl rfl (XR_nil ?_))))))
    refine X_ret (.cons (.tmp rfl) (.cons (.tmp rfl) .nil)) ?_
    rw [hdone (by omega) (by omega)] at hpp
    refine ⟨_, by rw [← hpp], ?_⟩
    rw [← hpp]
    exact st
  ·refine X_skip (X_seq (X_seq (X_reg (XV rfl rfl rfl (XV rfl rfl rfl ?_)))))
   refine XR_a (op_len rfl rfl rfl) rfl rfl ?_
   refine XV rfl rfl rfl ?_
   first | refine XR_a (op_subN rfl rfl (by omega) (by simp only [inK]; omega)) rfl rfl ?_ | refine XR_a (op_subI rfl rfl (by simp only [inK]; omega)) rfl rfl ?_ | refine XR_a (op_sub rfl rfl) rfl rfl ?_
   refine XR_a (op_gtr rfl rfl) rfl rfl ?_
   refine XR_nil ?_
   refine X_if rfl (fun h => ?_) (fun h => ?_)
   ·refine X_seq (X_reg (XA rfl rfl rfl (XA rfl rfl rfl (XR_nil ?_))))
    refine X_ret (.cons (.tmp rfl) (.cons (.tmp rfl) .nil)) ?_
    rw [hlong (by omega)] at hpp
    refine ⟨_, by rw [← hpp], ?_⟩
    rw [← hpp]
    exact (st.nilrow 5 1).only
   ·refine X_skip (X_seq (X_reg (XV rfl rfl rfl (XV rfl rfl rfl (XV rfl rfl rfl (XV rfl rfl rfl (XV rfl rfl rfl ?_)))))))
    first | refine XR_a (op_addN rfl rfl (by simp only [inK]; omega)) rfl rfl ?_ | refine XR_a (op_addI rfl rfl (by simp only [inK]; omega)) rfl rfl ?_ | refine XR_a (op_add rfl rfl) rfl rfl ?_
    refine XR_a (op_slice rfl rfl rfl rfl (by omega) (by omega)) rfl rfl ?_
    have hcut := (hr.ext st.low).cut (a + 2) 1 c n (by intro hh; simp; omega)
    rw [Nat.mul_one, ← List.map_drop, ← List.map_take] at hcut
    refine XR_wa (opl_append st 0 rfl (hcut) (by simp; omega) (one_bytes _) (by simp; omega) rfl rfl rfl rfl rfl rfl rfl) rfl rfl rfl fun v hp st => ?_
    simp only [List.set_cons_zero, List.set_cons_succ] at st
    refine XA rfl rfl rfl (XR_nil (X_reg (XV rfl rfl rfl (XV rfl rfl rfl ?_))))
    first | refine XR_a (op_addN rfl rfl (by simp only [inK]; omega)) rfl rfl ?_ | refine XR_a (op_addI rfl rfl (by simp only [inK]; omega)) rfl rfl ?_ | refine XR_a (op_add rfl rfl) rfl rfl ?_
    refine XA rfl rfl rfl (XR_nil (X_blk ?_))
    rw [hstep (by omega) (by omega)] at hpp
    rw [← List.map_append] at st
    refine X_again (a + 2 + n, v, out ++ (l.drop (a + 2)).take n) (.cons rfl (.cons rfl (.cons rfl (.nil _)))) ⟨st, by simp only; omega, ?_, hpp⟩ (by simp only; omega)
    simp only [List.length_append, List.length_take]
    omega
 ·refine X_exit rfl (X_seq (X_reg (XA rfl rfl rfl (XA rfl rfl rfl (XR_nil ?_)))))
  refine X_ret (.cons (.tmp rfl) (.cons (.tmp rfl) .nil)) ?_
  rw [piecesF_short hl (by omega) ha] at hpp
  refine ⟨_, by rw [← hpp], ?_⟩
  rw [← hpp]
  exact (st.nilrow 5 1).only
end Go.Bn
end

section
set_option linter.unusedVariables false
set_option linter.unusedSimpArgs false
set_option maxHeartbeats 4000000
set_option maxRecDepth 20000
namespace Go.Bn
open Go Proofs
noncomputable def packP (b : List UInt8) (lv : Int) : Nat × List UInt8 :=
  if 0 ≤ lv ∧ (pack (blockB ((splitL b lv).map splitY))).length < b.length then (1, pack (blockB ((splitL b lv).map splitY))) else (0, b)
theorem piecesF_err : ∀ (f : Nat) (l out : List UInt8), 0 ≤ (piecesF f l out).2
 | 0, _, _ => by rw [piecesF]; decide
 | f + 1, l, out => by
  rw [piecesF]
  split
  ·decide
  ·split
   ·decide
   ·split
    ·split
     ·decide
     ·exact Int.le_refl 0
    ·exact piecesF_err f _ _
theorem pieces_err (l : List UInt8) : 0 ≤ (pieces l).2 := piecesF_err _ _ _
theorem piecesF_len : ∀ (f : Nat) (l out : List UInt8), (piecesF f l out).1.length ≤ out.length + l.length
 | 0, _, _ => by rw [piecesF]; simp
 | f + 1, l, out => by
  rw [piecesF]
  split
  ·simp
  ·split
   ·simp
   ·split
    ·split
     ·simp
     ·simp
    ·have := piecesF_len f (l.drop (2 + leV (l.take 2))) (out ++ (l.drop 2).take (leV (l.take 2)))
     rw [List.length_append, List.length_take, List.length_drop, List.length_drop] at this
     omega
theorem pieces_len (l : List UInt8) : (pieces l).1.length ≤ l.length := by
 have := piecesF_len (l.length + 1) l []
 simpa [pieces] using this
theorem splitL_blen {b : List UInt8} (lv : Int) (hb : b.length ≤ 65536) : (blockB ((splitL b lv).map splitY)).length ≤ 7000 + 94 * b.length := by
 obtain ⟨hR, hby, _, _, hle, _⟩ := splitL_ok (b := b) lv hb
 have := blockB_len (split_b30 hR hby)
 rw [List.length_map] at this
 omega
theorem csmall_spec (x : Int) (h0 : Heap) : Ret Tryz.prog 52 [.int .i64 x] h0 fun v h' => v = .bool (decide (0 ≤ x ∧ x ≤ 65536)) ∧ h0 = h' := by
 refine ret_of_X Tryz.func52 rfl rfl fun w0 hw0 => ?_
 simp only [argE, Nat.zero_add, Nat.reduceAdd]
 refine X_seq (X_reg (XA rfl rfl rfl (XR_nil (X_seq (X_reg (XV rfl rfl rfl ?_))))))
 refine XR_a (op_geq rfl rfl) rfl rfl ?_
 refine XV rfl rfl rfl ?_
 refine XR_if 5 rfl (fun h => ?_) (fun h => ?_)
 ·refine XV rfl rfl rfl ?_
  refine XR_a (op_leq rfl rfl) rfl rfl ?_
  refine XR_a (op_pick_t rfl rfl) rfl rfl (XA rfl rfl rfl (XR_nil ?_))
  refine X_ret (.cons (.tmp rfl) .nil) ?_
  first
   | exact ⟨congrArg Value.bool (decide_eq_decide.2 ⟨fun hh => by omega, fun hh => by omega⟩), rfl⟩
   | exact ⟨congrArg Value.bool (decide_eq_false (by omega)).symm, rfl⟩
 ·refine XR_no rfl rfl (XR_no rfl rfl (XR_a (op_pick_f rfl rfl) rfl rfl (XA rfl rfl rfl (XR_nil ?_))))
  refine X_ret (.cons (.tmp rfl) .nil) ?_
  first
   | exact ⟨congrArg Value.bool (decide_eq_decide.2 ⟨fun hh => by omega, fun hh => by omega⟩), rfl⟩
   | exact ⟨congrArg Value.bool (decide_eq_false (by omega)).symm, rfl⟩
theorem cpack_spec {n c : Nat} {lv : Int} {A : Option Addr} {b : List UInt8} {h0 : Heap} (hr : Rd h0 A (b.map byteV)) (hl : b.length = n) (hn : n ≤ 65536) :
  Ret Tryz.prog 26 [.slice A n c, .int .i64 lv] h0 fun v h' => ∃ w, v = retVal [nV (packP b lv).1, w, nV 0] ∧ St h0.size h0 h' [row 5 1 w ((packP b lv).2.map byteV)] := by
 obtain ⟨K, hK⟩ : ∃ K, packP b lv = K := ⟨_, rfl⟩
 rw [hK]
 unfold packP at hK
 refine ret_of_X Tryz.func26 rfl rfl fun w0 hw0 => ?_
 simp only [argE, Nat.zero_add, Nat.reduceAdd]
 have st := St.start h0
 refine X_seq (X_reg (XA rfl rfl rfl (XA rfl rfl rfl (XA rfl rfl rfl (XR_nil (X_seq (X_seq (X_reg (XV rfl rfl rfl ?_)))))))))
 refine XR_a (op_len rfl rfl rfl) rfl rfl ?_
 refine XR_wa (opl_call (csmall_spec _ _) rfl (by kernel_rfl)) rfl rfl rfl ?_
 rintro _ _ ⟨rfl, rfl⟩
 rw [decide_eq_true (by omega)]
 refine XR_a (op_not rfl) rfl rfl ?_
 refine XR_as (.bool false) rfl ?_
 refine XR_nil (X_else rfl (X_skip (X_seq (X_seq (X_reg (XV rfl rfl rfl ?_))))))
 refine XR_a (op_geq rfl rfl) rfl rfl ?_
 refine XR_nil ?_
 refine X_if rfl (fun h => ?_) (fun h => ?_)
 ·refine X_seq (X_reg ?_)
  refine XR_wa (opl_new rfl) rfl rfl rfl ?_
  rintro _ hp ⟨p7, rfl, hnew⟩
  replace st := (st.new hnew).wr0
  refine XR_nil (X_seq (X_reg (XV rfl rfl rfl (XV rfl rfl rfl ?_))))
  refine XR_wa (opl_call (tsplit_spec (hr.ext st.low) hl (by omega)) rfl (by kernel_rfl)) rfl rfl rfl ?_
  rintro v16 hp2 st2
  obtain ⟨hR, hby, hdO, hsz, hle, _⟩ := splitL_ok (b := b) lv (by omega)
  have hbl := splitL_blen (b := b) lv (by omega)
  replace st := (st.join st2).perm (List.Perm.swap _ _ _)
  clear st2
  obtain ⟨A16, n16, c16, rfl, hl16, _⟩ := st.row 1 rfl
  rw [flat_length _ 3 (fun _ => rfl)] at hl16
  refine XR_wa (opl_call (bput_spec st.here (fun h' rs hs => hs.rdM (List.mem_append_right _ List.mem_cons_self)) (show (splitL b lv).length = n16 by omega) (by omega) hby (by simp)) rfl (by kernel_rfl)) rfl rfl rfl ?_
  rintro _ hp3 ⟨rfl, st3⟩
  rw [if_pos hR, List.nil_append] at st3
  replace st := st.trans st3
  clear st3
  have hpl := pack_length (blockB ((splitL b lv).map splitY))
  obtain ⟨BL, hBL⟩ : ∃ BL, blockB ((splitL b lv).map splitY) = BL := ⟨_, rfl⟩
  rw [hBL] at st hK hbl hpl
  refine XR_nil (X_seq (X_reg ?_))
  refine XR_wa (opl_call (wlen_spec st.here (by omega)) rfl (by kernel_rfl)) rfl rfl rfl ?_
  rintro _ _ ⟨rfl, rfl⟩
  first | refine XR_a (op_addN (n := 7) rfl rfl (by simp only [inK]; omega)) rfl rfl ?_ | refine XR_a (op_addI rfl rfl (by simp only [inK]; omega)) rfl rfl ?_ | refine XR_a (op_add rfl rfl) rfl rfl ?_
  first | refine XR_a (op_quoN (n := 8) rfl rfl (by omega) (by simp only [inK]; omega)) rfl rfl ?_ | refine XR_a (op_quoI rfl rfl (by omega) (by omega) (by simp only [inK]; omega)) rfl rfl ?_ | refine XR_a (op_quo rfl rfl (by omega)) rfl rfl ?_
  refine XV rfl rfl rfl ?_
  refine XR_a (op_len rfl rfl rfl) rfl rfl ?_
  refine XR_a (op_lss rfl rfl) rfl rfl ?_
  refine XR_nil ?_
  refine X_if rfl (fun h => ?_) (fun h => ?_)
  ·rw [if_pos ⟨by omega, by omega⟩] at hK
   subst hK
   refine X_seq (X_reg ?_)
   refine XR_wa (opl_call (wbytes_spec st.here (by omega)) rfl (by kernel_rfl)) rfl rfl rfl ?_
   rintro v24 hp5 st5
   refine XA rfl rfl rfl (XA rfl rfl rfl (XA rfl rfl rfl (XR_nil ?_)))
   refine X_ret (.cons (.tmp rfl) (.cons (.tmp rfl) (.cons (.tmp rfl) .nil))) ?_
   exact ⟨_, rfl, (st.join st5).keep 1⟩
  ·rw [if_neg (by omega)] at hK
   subst hK
   refine X_skip (X_seq (X_reg ?_))
   refine XR_wa (opl_lit0 rfl) rfl rfl rfl ?_
   rintro v25 hp hnew
   replace st := st.new hnew
   refine XV rfl rfl rfl ?_
   refine XR_wa (opl_append st 0 rfl (hr.ext st.low) (by simpa using hl) (one_bytes _) (by simp; omega) rfl rfl rfl rfl rfl rfl rfl) rfl rfl rfl fun v hp st => ?_
   simp only [List.set_cons_zero, List.set_cons_succ] at st
   rw [List.nil_append] at st
   refine XA rfl rfl rfl (XA rfl rfl rfl (XA rfl rfl rfl (XR_nil ?_)))
   refine X_ret (.cons (.tmp rfl) (.cons (.tmp rfl) (.cons (.tmp rfl) .nil))) ?_
   exact ⟨_, rfl, st.keep 1⟩
 ·rw [if_neg (by omega)] at hK
  subst hK
  refine X_skip (X_seq (X_reg ?_))
  refine XR_wa (opl_lit0 rfl) rfl rfl rfl ?_
  rintro v25 hp hnew
  replace st := st.new hnew
  refine XV rfl rfl rfl ?_
  refine XR_wa (opl_append st 0 rfl (hr.ext st.low) (by simpa using hl) (one_bytes _) (by simp; omega) rfl rfl rfl rfl rfl rfl rfl) rfl rfl rfl fun v hp st => ?_
  simp only [List.set_cons_zero, List.set_cons_succ] at st
  rw [List.nil_append] at st
  refine XA rfl rfl rfl (XA rfl rfl rfl (XA rfl rfl rfl (XR_nil ?_)))
  refine X_ret (.cons (.tmp rfl) (.cons (.tmp rfl) (.cons (.tmp rfl) .nil))) ?_
  exact ⟨_, rfl, st.keep 1⟩
theorem cpacked_spec {m c size : Nat} {A : Option Addr} {l : List UInt8} {h0 : Heap} (hr : Rd h0 A (l.map byteV)) (hl : l.length = m) (hm : m ≤ 1048576) (hs : size ≤ 65536) :
  Ret Tryz.prog 53 [.slice A m c, nV size] h0 fun v h' => ∃ w, v = retVal [w, nV (unpackU 1 l size).2] ∧ St h0.size h0 h' [row 5 1 w ((unpackU 1 l size).1.map byteV)] := by
 obtain ⟨U, hU⟩ : ∃ U, unpackU 1 l size = U := ⟨_, rfl⟩
 rw [hU]
 unfold unpackU at hU
 have hok := blockT_ok (bs := bitsB l) (most := (size : Int)) (by omega)
 have hbl := bitsB_length l
 obtain ⟨T, hT⟩ : ∃ T, blockT (bitsB l) size = T := ⟨_, rfl⟩
 rw [hT] at hU hok
 rw [if_neg (by omega), if_neg (by omega), if_pos rfl] at hU
 refine ret_of_X Tryz.func53 rfl rfl fun w0 hw0 => ?_
 simp only [argE, Nat.zero_add, Nat.reduceAdd]
 refine X_seq (X_reg (XA rfl rfl rfl (XA rfl rfl rfl (XR_nil (X_seq (X_reg (XV rfl rfl rfl ?_)))))))
 refine XR_wa (opl_call (rnew_spec) rfl (by kernel_rfl)) rfl rfl rfl ?_
 rintro _ hp1 ⟨q, rfl, st⟩
 refine XA rfl rfl rfl (XR_nil (X_seq (X_reg (XV rfl rfl rfl (XV rfl rfl rfl ?_)))))
 refine XR_wa (opl_call (btake_spec (most := (size : Int)) st.here (fun h' hh => hr.ext (st.low.trans hh)) hl (by omega) (by simp only [inK]; omega)) rfl (by kernel_rfl)) rfl rfl rfl ?_
 rintro _ hp2 ⟨w, a', rfl, ha', hat, st2⟩
 rw [hT] at st2 hat ⊢
 replace st := st.trans st2
 clear st2
 refine XV rfl rfl rfl (XR_a (op_extract rfl rfl) rfl rfl (XR_a (op_extract rfl rfl) rfl rfl (XA rfl rfl rfl (XA rfl rfl rfl (XR_nil (X_seq (X_seq (X_reg (XV rfl rfl rfl ?_)))))))))
 refine XR_a (op_neq rfl rfl) rfl rfl ?_
 refine XR_nil ?_
 refine X_if rfl (fun h => ?_) (fun h => ?_)
 ·rw [if_pos (by omega)] at hU
  subst hU
  refine X_seq (X_reg (XV rfl rfl rfl (XA rfl rfl rfl (XA rfl rfl rfl (XR_nil ?_)))))
  refine X_ret (.cons (.tmp rfl) (.cons (.tmp rfl) .nil)) ?_
  exact ⟨_, rfl, (st.nilrow 5 1).keep 1⟩
 ·have hT0 : T.2.2.2 = 0 := by omega
  rw [if_neg (by omega)] at hU
  obtain ⟨hk, hk2, hk3, hk4, hk5⟩ := hok hT0
  have ha2 := hat hT0
  subst ha2
  obtain ⟨A7, n7, c7, rfl, hl7, _, _, hr7⟩ := st.row 1 rfl
  rw [flat_length _ 3 (fun _ => rfl)] at hl7
  refine X_skip (X_seq (X_reg (XV rfl rfl rfl (XV rfl rfl rfl ?_))))
  refine XR_wa (opl_call (texpand_spec (most := size) hr7 (show T.1.length = n7 by omega) (by omega) hk (by omega) (by omega)) rfl (by kernel_rfl)) rfl rfl rfl ?_
  rintro _ hp3 ⟨w9, rfl, st3⟩
  replace st := st.join st3
  simp only [List.cons_append, List.nil_append] at st
  clear st3
  have hxl := expL_length (ts := T.1) [] fun t ht => (hk.ok t ht).1
  obtain ⟨A9, n9, c9, rfl, hl9, _⟩ := st.row 0 rfl
  rw [List.length_map, Nat.mul_one, hxl, List.length_nil, Nat.zero_add] at hl9
  refine XV rfl rfl rfl (XR_a (op_extract rfl rfl) rfl rfl (XR_a (op_extract rfl rfl) rfl rfl (XA rfl rfl rfl (XA rfl rfl rfl (XR_nil (X_seq (X_block (X_seq (X_reg ?_)))))))))
  refine XV rfl rfl rfl ?_
  refine XR_a (op_neq rfl rfl) rfl rfl ?_
  refine XR_as (.bool false) (congrArg Value.bool (decide_eq_false (by decide))) ?_
  refine XA rfl rfl rfl (XR_nil (X_else rfl (X_seq (X_reg (XV rfl rfl rfl ?_)))))
  refine XR_a (op_len rfl rfl rfl) rfl rfl ?_
  refine XV rfl rfl rfl ?_
  refine XR_a (op_neq rfl rfl) rfl rfl ?_
  refine XA rfl rfl rfl (XR_nil ?_)
  refine X_if rfl (fun h => ?_) (fun h => ?_)
  ·rw [if_pos (by omega)] at hU
   subst hU
   refine X_seq (X_reg (XA rfl rfl rfl (XA rfl rfl rfl (XR_nil ?_))))
   refine X_ret (.cons (.tmp rfl) (.cons (.tmp rfl) .nil)) ?_
   exact ⟨_, rfl, (st.nilrow 5 1).keep 1⟩
  ·rw [if_neg (by omega)] at hU
   refine X_seq (X_reg (XV rfl rfl rfl ?_))
   refine XR_wa (opl_call (rleft_spec (st.cell 1 (i := 0) rfl rfl) (st.cell 1 (i := 1) rfl rfl) (by omega) ha') rfl (by kernel_rfl)) rfl rfl rfl ?_
   rintro _ _ ⟨rfl, rfl⟩
   refine XR_a (op_geq rfl rfl) rfl rfl ?_
   refine XV rfl rfl rfl ?_
   refine XR_if 40 rfl (fun h => ?_) (fun h => ?_)
   ·rw [if_pos (.inl (by omega))] at hU
    subst hU
    refine XR_no rfl rfl (XR_no rfl rfl (XR_no rfl rfl (XR_a (op_pick_t rfl rfl) rfl rfl (XA rfl rfl rfl (XR_nil (X_then rfl (X_seq (X_reg (XA rfl rfl rfl ?_)))))))))
    refine XA rfl rfl rfl (XR_nil ?_)
    refine X_ret (.cons (.tmp rfl) (.cons (.tmp rfl) .nil)) ?_
    exact ⟨_, rfl, (st.nilrow 5 1).keep 1⟩
   ·refine XV rfl rfl rfl ?_
    refine XR_wa (opl_call (rpeek_spec (k := 8) (st.cell 1 (i := 0) rfl rfl) (st.cell 1 (i := 1) rfl rfl) (hr.ext st.low) hl (by omega) ha') rfl (by kernel_rfl)) rfl rfl rfl ?_
    rintro _ _ ⟨rfl, rfl⟩
    rw [show wd 32 8 = 8 from rfl]
    refine XR_a (op_neq rfl rfl) rfl rfl ?_
    refine XR_a (op_pick_f rfl rfl) rfl rfl (XA rfl rfl rfl (XR_nil ?_))
    refine X_if rfl (fun h => ?_) (fun h => ?_)
    ·rw [if_pos (.inr (by omega))] at hU
     subst hU
     refine X_seq (X_reg (XA rfl rfl rfl (XA rfl rfl rfl (XR_nil ?_))))
     refine X_ret (.cons (.tmp rfl) (.cons (.tmp rfl) .nil)) ?_
     exact ⟨_, rfl, (st.nilrow 5 1).keep 1⟩
    ·rw [if_neg (by omega)] at hU
     subst hU
     refine X_skip (X_blk (X_seq (X_reg (XV rfl rfl rfl (XA rfl rfl rfl (XA rfl rfl rfl (XR_nil ?_)))))))
     refine X_ret (.cons (.tmp rfl) (.cons (.tmp rfl) .nil)) ?_
     exact ⟨_, rfl, st.keep 1⟩
theorem cunpack_spec {m c : Nat} {mt size : Int} {A : Option Addr} {l : List UInt8} {h0 : Heap} (hr : Rd h0 A (l.map byteV)) (hl : l.length = m) (hm : m ≤ 1048576) (hmc : m ≤ c) :
  Ret Tryz.prog 24 [.int .i64 mt, .slice A m c, .int .i64 size] h0 fun v h' => ∃ w, v = retVal [w, nV (unpackU mt l size).2] ∧ St h0.size h0 h' [row 5 1 w ((unpackU mt l size).1.map byteV)] := by
 obtain ⟨U, hU⟩ : ∃ U, unpackU mt l size = U := ⟨_, rfl⟩
 have hUU := hU
 rw [hU]
 unfold unpackU at hU
 have hpe := pieces_err l
 have hpl := pieces_len l
 refine ret_of_X Tryz.func24 rfl rfl fun w0 hw0 => ?_
 simp only [argE, Nat.zero_add, Nat.reduceAdd]
 have st := St.start h0
 refine X_seq (X_reg (XA rfl rfl rfl (XA rfl rfl rfl (XR_nil (X_seq (X_seq (X_reg (XV rfl rfl rfl ?_))))))))
 refine XR_a (op_lss rfl rfl) rfl rfl ?_
 refine XV rfl rfl rfl ?_
 refine XR_if 12 rfl (fun h => ?_) (fun h => ?_)
 ·rw [if_pos (by omega)] at hU
  subst hU
  refine XR_no rfl rfl (XR_no rfl rfl (XR_a (op_pick_t rfl rfl) rfl rfl (XR_nil (X_then rfl (X_seq (X_reg (XA rfl rfl rfl (XA rfl rfl rfl (XR_nil ?_)))))))))
  refine X_ret (.cons (.tmp rfl) (.cons (.tmp rfl) .nil)) ?_
  exact ⟨_, rfl, (st.nilrow 5 1).keep 1⟩
 ·refine XV rfl rfl rfl ?_
  refine XR_a (op_gtr rfl rfl) rfl rfl ?_
  refine XR_a (op_pick_f rfl rfl) rfl rfl (XR_nil ?_)
  refine X_if rfl (fun h => ?_) (fun h => ?_)
  ·rw [if_pos (by omega)] at hU
   subst hU
   refine X_seq (X_reg (XA rfl rfl rfl (XA rfl rfl rfl (XR_nil ?_))))
   refine X_ret (.cons (.tmp rfl) (.cons (.tmp rfl) .nil)) ?_
   exact ⟨_, rfl, (st.nilrow 5 1).keep 1⟩
  ·rw [if_neg (by omega)] at hU
   refine X_skip (X_seq (X_seq (X_reg (XV rfl rfl rfl ?_))))
   refine XR_wa (opl_call (csmall_spec _ _) rfl (by kernel_rfl)) rfl rfl rfl ?_
   rintro _ _ ⟨rfl, rfl⟩
   first | refine XR_a (op_notd rfl) rfl rfl ?_ | refine XR_a (op_not rfl) rfl rfl ?_
   refine XR_nil ?_
   refine X_if rfl (fun h => ?_) (fun h => ?_)
   ·rw [if_pos (by omega)] at hU
    subst hU
    refine X_seq (X_reg (XA rfl rfl rfl (XA rfl rfl rfl (XR_nil ?_))))
    refine X_ret (.cons (.tmp rfl) (.cons (.tmp rfl) .nil)) ?_
    exact ⟨_, rfl, (st.nilrow 5 1).keep 1⟩
   ·rw [if_neg (by omega)] at hU
    obtain ⟨s, rfl⟩ : ∃ s : Nat, size = (s : Int) := ⟨size.toNat, by omega⟩
    refine X_skip (X_seq (X_reg (XV rfl rfl rfl (XA rfl rfl rfl (XA rfl rfl rfl (XR_nil (X_seq (X_seq (X_reg ?_)))))))))
    refine XV rfl rfl rfl (XR_nil (X_block (X_seq (X_reg ?_))))
    refine XR_a (op_eql rfl rfl) rfl rfl ?_
    refine XA rfl rfl rfl (XR_nil ?_)
    refine X_if rfl (fun h => ?_) (fun h => ?_)
    ·obtain rfl : mt = 1 := h
     refine X_seq (X_reg (XV rfl rfl rfl (XV rfl rfl rfl ?_)))
     refine XR_wa (opl_call (cpacked_spec (size := s) hr hl hm (by omega)) rfl (by kernel_rfl)) rfl rfl rfl ?_
     rintro _ hp2 ⟨w, rfl, st2⟩
     rw [hUU] at st2 ⊢
     refine XR_a (op_extract rfl rfl) rfl rfl (XR_a (op_extract rfl rfl) rfl rfl (XA rfl rfl rfl (XA rfl rfl rfl (XR_nil ?_))))
     refine X_ret (.cons (.tmp rfl) (.cons (.tmp rfl) .nil)) ?_
     exact ⟨_, rfl, st2⟩
    ·rw [if_neg (by omega)] at hU
     refine X_seq (X_reg ?_)
     refine XR_a (op_eql rfl rfl) rfl rfl ?_
     refine XA rfl rfl rfl (XR_nil ?_)
     refine X_if rfl (fun h => ?_) (fun h => ?_)
     ·rw [if_pos (by omega)] at hU
      refine X_reg (XV rfl rfl rfl ?_)
      refine XR_wa (opl_call (pieces_spec hr hl (by omega) hmc) rfl (by kernel_rfl)) rfl rfl rfl ?_
      rintro _ hp3 ⟨w3, rfl, st3⟩
      replace st := st.join st3
      simp only [List.cons_append, List.nil_append] at st
      clear st3
      obtain ⟨A8, n8, c8, rfl, hl8, _, _, hr8⟩ := st.row 0 rfl
      rw [List.length_map, Nat.mul_one] at hl8
      refine XV rfl rfl rfl (XR_a (op_extract rfl rfl) rfl rfl (XR_a (op_extract rfl rfl) rfl rfl (XA rfl rfl rfl (XA rfl rfl rfl (XR_nil (X_blk (X_seq (X_block (X_seq ?_)))))))))
      refine X_reg (XV rfl rfl rfl ?_)
      refine XR_a (op_neq rfl rfl) rfl rfl ?_
      refine XA rfl rfl rfl (XR_nil ?_)
      refine X_if rfl (fun h => ?_) (fun h => ?_)
      ·rw [if_pos (by omega)] at hU
       subst hU
       refine X_seq (X_reg (XV rfl rfl rfl (XA rfl rfl rfl (XA rfl rfl rfl (XR_nil ?_)))))
       refine X_ret (.cons (.tmp rfl) (.cons (.tmp rfl) .nil)) ?_
       exact ⟨_, by rw [show (pieces l).2 = (((pieces l).2.toNat : Nat) : Int) by omega]; rfl, (st.nilrow 5 1).keep 1⟩
      ·rw [if_neg (by omega)] at hU
       refine X_seq (X_reg (XV rfl rfl rfl ?_))
       refine XR_a (op_len rfl rfl rfl) rfl rfl ?_
       refine XV rfl rfl rfl ?_
       refine XR_a (op_neq rfl rfl) rfl rfl ?_
       refine XA rfl rfl rfl (XR_nil ?_)
       refine X_if rfl (fun h => ?_) (fun h => ?_)
       ·rw [if_pos (by omega)] at hU
        subst hU
        refine X_seq (X_reg (XA rfl rfl rfl (XA rfl rfl rfl (XR_nil ?_))))
        refine X_ret (.cons (.tmp rfl) (.cons (.tmp rfl) .nil)) ?_
        exact ⟨_, rfl, (st.nilrow 5 1).keep 1⟩
       ·rw [if_neg (by omega)] at hU
        subst hU
        refine X_skip (X_blk (X_seq (X_reg ?_)))
        refine XR_wa (opl_lit0 rfl) rfl rfl rfl ?_
        rintro v25 hp hnew
        replace st := st.new hnew
        refine XV rfl rfl rfl ?_
        refine XR_wa (opl_append st 0 rfl (hr8.ext hnew.1) (by rw [List.length_map]; omega) (one_bytes _) (by simp; omega) rfl rfl rfl rfl rfl rfl rfl) rfl rfl rfl fun v hp st => ?_
        simp only [List.set_cons_zero, List.set_cons_succ] at st
        rw [List.nil_append] at st
        refine XA rfl rfl rfl (XA rfl rfl rfl (XR_nil ?_))
        refine X_ret (.cons (.tmp rfl) (.cons (.tmp rfl) .nil)) ?_
        exact ⟨_, rfl, st.keep 1⟩
     ·rw [if_neg (by omega)] at hU
      refine X_skip (X_blk (X_seq (X_block (X_seq (X_reg (XV rfl rfl rfl ?_))))))
      refine XR_a (op_neq rfl rfl) rfl rfl ?_
      refine XR_as (.bool false) (congrArg Value.bool (decide_eq_false (by decide))) ?_
      refine XA rfl rfl rfl (XR_nil (X_else rfl (X_seq (X_reg (XV rfl rfl rfl ?_)))))
      refine XR_a (op_len rfl rfl rfl) rfl rfl ?_
      refine XV rfl rfl rfl ?_
      refine XR_a (op_neq rfl rfl) rfl rfl ?_
      refine XA rfl rfl rfl (XR_nil ?_)
      refine X_if rfl (fun h => ?_) (fun h => ?_)
      ·rw [if_pos (by omega)] at hU
       subst hU
       refine X_seq (X_reg (XA rfl rfl rfl (XA rfl rfl rfl (XR_nil ?_))))
       refine X_ret (.cons (.tmp rfl) (.cons (.tmp rfl) .nil)) ?_
       exact ⟨_, rfl, (st.nilrow 5 1).keep 1⟩
      ·rw [if_neg (by omega)] at hU
       subst hU
       refine X_skip (X_blk (X_seq (X_reg ?_)))
       refine XR_wa (opl_lit0 rfl) rfl rfl rfl ?_
       rintro v25 hp hnew
       replace st := st.new hnew
       refine XV rfl rfl rfl ?_
       refine XR_wa (opl_append st 0 rfl (hr.ext st.low) (by rw [List.length_map]; omega) (one_bytes _) (by simp; omega) rfl rfl rfl rfl rfl rfl rfl) rfl rfl rfl fun v hp st => ?_
       simp only [List.set_cons_zero, List.set_cons_succ] at st
       rw [List.nil_append] at st
       refine XA rfl rfl rfl (XA rfl rfl rfl (XR_nil ?_))
       refine X_ret (.cons (.tmp rfl) (.cons (.tmp rfl) .nil)) ?_
       exact ⟨_, rfl, st.keep 1⟩
end Go.Bn
end

section
set_option linter.unusedVariables false
set_option linter.unusedSimpArgs false
namespace Go.Bn
theorem packP_len {b : List UInt8} (lv : Int) : (packP b lv).2.length ≤ b.length := by
 unfold packP; split
 ·rename_i h; simp only; omega
 ·exact Nat.le_refl _
theorem pack_back {b : List UInt8} (lv : Int) (hb : b.length ≤ 65536) : unpackU ((packP b lv).1 : Nat) (packP b lv).2 (b.length : Nat) = (b, 0) ∧ ∀ o : Int, (unpackU ((packP b lv).1 : Nat) (packP b lv).2 o).2 = 0 ↔ o = (b.length : Int) := by
 unfold packP
 split
 ·obtain ⟨hR, hby, hd, hs, _, hx⟩ := splitL_ok (b := b) lv hb
  obtain ⟨ts, hts⟩ : ∃ ts, splitL b lv = ts := ⟨_, rfl⟩
  rw [hts] at hR hby hd hs hx ⊢
  have hbp := bitsB_pack (blockB (ts.map splitY))
  have hback := fun (most : Int) (h : ((sizeT ts : Nat) : Int) ≤ most) Z => blockT_back hR hby hd h Z
  have hshort := fun (most : Int) (h0 : 0 ≤ most) (h : most < (sizeT ts : Int)) Z => blockT_short hR hby hd h0 h Z
  obtain ⟨BL, hBL⟩ : ∃ BL, blockB (ts.map splitY) = BL := ⟨_, rfl⟩
  simp only [hBL] at hbp hback hshort ⊢
  have hnum := numB_tail BL ((8 - BL.length % 8) % 8) 8
  have hzl : (bitsB (pack BL)).length - BL.length < 8 := by rw [hbp, List.length_append, List.length_replicate]; omega
  rw [← hbp] at hnum
  have key : ∀ o : Int, unpackU ((1 : Nat) : Int) (pack BL) o = if o = (b.length : Int) then (b, 0) else ([], 5) := fun o => by
   unfold unpackU
   rw [if_neg (by omega)]
   by_cases h1 : o < 0 ∨ 65536 < o
   ·rw [if_pos h1, if_neg (by omega)]
   ·rw [if_neg h1, if_pos (by rfl)]
    by_cases h2 : o < (b.length : Int)
    ·rw [hbp, hshort o (by omega) (by omega)]
     rw [if_pos (by simp), if_neg (by omega)]
    ·have hT := hback o (by omega) (List.replicate ((8 - BL.length % 8) % 8) false)
     rw [← hbp] at hT
     rw [hT]
     simp only
     rw [if_neg (by simp)]
     by_cases h3 : o = (b.length : Int)
     ·rw [if_neg (by omega), if_neg (by omega), if_pos h3, hx]
     ·rw [if_pos (by omega), if_neg h3]
  refine ⟨by rw [key, if_pos rfl], fun o => ?_⟩
  rw [key]
  split
  ·rename_i h; exact ⟨fun _ => h, fun _ => rfl⟩
  ·rename_i h; exact ⟨fun hh => (by cases hh), fun hh => absurd hh h⟩
 ·have key : ∀ o : Int, unpackU ((0 : Nat) : Int) b o = if o = (b.length : Int) then (b, 0) else ([], 5) := fun o => by
   unfold unpackU
   rw [if_neg (by omega)]
   by_cases h1 : o < 0 ∨ 65536 < o
   ·rw [if_pos h1, if_neg (by omega)]
   ·rw [if_neg h1, if_neg (by decide), if_neg (by decide)]
    by_cases h3 : o = (b.length : Int)
    ·rw [if_neg (by omega), if_pos h3]
    ·rw [if_pos (by omega), if_neg h3]
  refine ⟨by rw [key, if_pos rfl], fun o => ?_⟩
  rw [key]
  split
  ·rename_i h; exact ⟨fun _ => h, fun _ => rfl⟩
  ·rename_i h; exact ⟨fun hh => (by cases hh), fun hh => absurd hh h⟩
theorem stream_back (ls : List (List UInt8)) (hb : ls.flatten.length ≤ 65536) : unpackU 2 (streamB ls) (ls.flatten.length : Nat) = (ls.flatten, 0) ∧ ∀ o : Int, (unpackU 2 (streamB ls) o).2 = 0 ↔ o = (ls.flatten.length : Int) := by
 have key : ∀ o : Int, unpackU 2 (streamB ls) o = if o = (ls.flatten.length : Int) then (ls.flatten, 0) else ([], 5) := fun o => by
  unfold unpackU
  rw [if_neg (by omega), pieces_stream]
  by_cases h1 : o < 0 ∨ 65536 < o
  ·rw [if_pos h1, if_neg (by omega)]
  ·rw [if_neg h1, if_neg (by decide), if_pos rfl, if_neg (by simp)]
   by_cases h3 : o = (ls.flatten.length : Int)
   ·rw [if_neg (by simp only; omega), if_pos h3]
   ·rw [if_pos (by simp only; omega), if_neg h3]
 refine ⟨by rw [key, if_pos rfl], fun o => ?_⟩
 rw [key]
 split
 ·rename_i h; exact ⟨fun _ => h, fun _ => rfl⟩
 ·rename_i h; exact ⟨fun hh => (by cases hh), fun hh => absurd hh h⟩
end Go.Bn
end

section
set_option linter.unusedVariables false
set_option linter.unusedSimpArgs false
set_option maxHeartbeats 4000000
set_option maxRecDepth 20000
namespace Go.Bn
open Go Proofs
theorem ofNat_bit (b : Bool) : (UInt8.ofNat b.toNat).toNat = b.toNat := by cases b <;> rfl
theorem number_ref {m c a : Nat} {k : Int} {A : Option Addr} {bs : List Bool} {h0 : Heap} (hr : Rd h0 A ((b01 bs).map byteV)) (hl : bs.length = m) (hm : m ≤ 1099511627776) (ha : a ≤ 1099511627776) :
  Ret Tryz.prog 55 [.slice A m c, .int .i64 (a : Int), .int .i64 k] h0 fun v h' => v = .int .u32 (numB bs a (wd 32 k) : Nat) ∧ h0 = h' := by
 have hwd := wd_le 32 k
 refine ret_of_X Tryz.func55 rfl rfl fun w0 hw0 => ?_
 simp only [argE, Nat.zero_add, Nat.reduceAdd]
 refine X_seq (X_reg (XA rfl rfl rfl (XR_nil (X_seq (X_reg (XA rfl rfl rfl (XR_nil (X_seq (X_reg ?_)))))))))
 refine XA rfl rfl rfl (XR_nil (X_seq (X_seq (X_reg (XA rfl rfl rfl (XR_nil (X_block ?_)))))))
 refine X_loop (fun s => 32 - s) (fun s => [(0, .slice A m c), (1, .int .i64 ((a + s : Nat) : Int)), (2, .int .i64 k), (7, .int .u32 (numB bs a s : Nat)), (8, .int .u32 ((2 ^ s % 4294967296 : Nat) : Int)), (9, .int .i64 (s : Int))])
  (fun (s : Nat) hp => h0 = hp ∧ s ≤ wd 32 k)
  0 (.cons rfl (.cons rfl (.cons rfl (.cons (by simp [numB_zero]; rfl) (.cons rfl (.cons rfl (.nil _))))))) ⟨rfl, by omega⟩ ?_
 rintro i hp ⟨rfl, hi⟩
 refine X_seq (X_seq (X_reg (XV rfl rfl rfl (XV rfl rfl rfl ?_))))
 refine XR_wa (opl_call (bwidth_ref k _) rfl (by kernel_rfl)) rfl rfl rfl ?_
 rintro _ _ ⟨rfl, rfl⟩
 refine XR_a (op_lss rfl rfl) rfl rfl ?_
 refine XR_nil ?_
 refine X_if rfl (fun h => ?_) (fun h => ?_)
 ·have hn1 := numB_lt bs a i
  have hn2 := numB_lt bs a (i + 1)
  have hp31 : 2 ^ i ≤ 2147483648 := Nat.le_trans (Nat.pow_le_pow_right (by omega) (show i ≤ 31 by omega)) (by decide)
  have hp2 : 2 ^ (i + 1) = 2 ^ i * 2 := Nat.pow_succ _ _
  have hmod : 2 ^ i % 4294967296 = 2 ^ i := Nat.mod_eq_of_lt (by omega)
  rw [hmod]
  have hout := numB_succ_out bs a i
  have hin := numB_succ bs a i
  refine X_skip (X_seq (X_block (X_seq (X_seq (X_reg (XV rfl rfl rfl (XV rfl rfl rfl ?_)))))))
  refine XR_a (op_len rfl rfl rfl) rfl rfl ?_
  refine XR_a (op_lss rfl rfl) rfl rfl ?_
  refine XR_nil ?_
  refine X_if rfl (fun h => ?_) (fun h => ?_)
  ·have hlt : a + i < bs.length := by omega
   obtain ⟨b, o, rfl, hc⟩ := hr.at_ (by rw [List.length_map, b01_length]; omega)
   have hcell := hc (a + i) (byteV (UInt8.ofNat bs[a + i].toNat)) (by rw [List.getElem?_map, b01_get bs _ hlt]; rfl)
   replace hin := hin hlt
   have hob := ofNat_bit bs[a + i]
   have hb1 := Bool.toNat_le bs[a + i]
   generalize bs[a + i] = y at *
   have hprod : 2 ^ i * y.toNat ≤ 2 ^ i * 1 := Nat.mul_le_mul_left _ hb1
   refine X_reg (XV rfl rfl rfl (XV rfl rfl rfl (XV rfl rfl rfl (XV rfl rfl rfl ?_))))
   first | refine XR_a (op_index1 rfl rfl rfl (by omega)) rfl rfl ?_ | refine XR_a (op_index rfl rfl rfl (by omega)) rfl rfl ?_
   refine XR_a (op_ld (hcell) rfl rfl rfl) rfl rfl ?_
   refine XR_a (op_convI rfl rfl (by simp only [inK]; omega)) rfl rfl ?_
   rw [hob]
   first | refine XR_a (op_mulN rfl rfl (by simp only [inK]; omega)) rfl rfl ?_ | refine XR_a (op_mulI rfl rfl (by simp only [inK]; omega)) rfl rfl ?_ | refine XR_a (op_mul rfl rfl) rfl rfl ?_
   refine XR_a (op_addN rfl rfl (by simp only [inK]; omega)) rfl rfl ?_
   rw [← hin]
   refine XA rfl rfl rfl (XR_nil (X_seq (X_reg (XV rfl rfl rfl ?_))))
   refine XR_a (op_mul rfl rfl) rfl rfl ?_
   refine XR_as (.int .u32 ((2 ^ (i + 1) % 4294967296 : Nat) : Int)) (by
    have e : (((2 ^ i : Nat) : Int) * 2) = ((2 ^ (i + 1) : Nat) : Int) := by rw [hp2, Int.natCast_mul]; rfl
    rw [e, wrap_u32]) ?_
   refine XA rfl rfl rfl (XR_nil (X_reg (XV rfl rfl rfl ?_)))
   first | refine XR_a (op_addN (n := 1) rfl rfl (by simp only [inK]; omega)) rfl rfl ?_ | refine XR_a (op_addI rfl rfl (by simp only [inK]; omega)) rfl rfl ?_ | refine XR_a (op_add rfl rfl) rfl rfl ?_
   refine XA rfl rfl rfl (XR_nil (X_blk (X_reg (XV rfl rfl rfl ?_))))
   first | refine XR_a (op_addN (n := 1) rfl rfl (by simp only [inK]; omega)) rfl rfl ?_ | refine XR_a (op_addI rfl rfl (by simp only [inK]; omega)) rfl rfl ?_ | refine XR_a (op_add rfl rfl) rfl rfl ?_
   refine XA rfl rfl rfl (XR_nil ?_)
   exact X_again (i + 1) (.cons rfl (.cons rfl (.cons rfl (.cons rfl (.cons rfl (.cons rfl (.nil _))))))) ⟨rfl, by omega⟩ (by omega)
  ·refine X_skip (X_seq (X_reg (XV rfl rfl rfl ?_)))
   refine XR_a (op_mul rfl rfl) rfl rfl ?_
   refine XR_as (.int .u32 ((2 ^ (i + 1) % 4294967296 : Nat) : Int)) (by
    have e : (((2 ^ i : Nat) : Int) * 2) = ((2 ^ (i + 1) : Nat) : Int) := by rw [hp2, Int.natCast_mul]; rfl
    rw [e, wrap_u32]) ?_
   refine XA rfl rfl rfl (XR_nil (X_reg (XV rfl rfl rfl ?_)))
   first | refine XR_a (op_addN (n := 1) rfl rfl (by simp only [inK]; omega)) rfl rfl ?_ | refine XR_a (op_addI rfl rfl (by simp only [inK]; omega)) rfl rfl ?_ | refine XR_a (op_add rfl rfl) rfl rfl ?_
   refine XA rfl rfl rfl (XR_nil (X_blk (X_reg (XV rfl rfl rfl ?_))))
   first | refine XR_a (op_addN (n := 1) rfl rfl (by simp only [inK]; omega)) rfl rfl ?_ | refine XR_a (op_addI rfl rfl (by simp only [inK]; omega)) rfl rfl ?_ | refine XR_a (op_add rfl rfl) rfl rfl ?_
   refine XA rfl rfl rfl (XR_nil ?_)
   rw [← hout (by omega)]
   exact X_again (i + 1) (.cons rfl (.cons rfl (.cons rfl (.cons rfl (.cons rfl (.cons rfl (.nil _))))))) ⟨rfl, by omega⟩ (by omega)
 ·refine X_exit rfl (X_seq (X_reg (XV rfl rfl rfl (XA rfl rfl rfl (XR_nil ?_)))))
  refine X_ret (.cons (.tmp rfl) .nil) ?_
  obtain rfl : i = wd 32 k := by omega
  exact ⟨rfl, rfl⟩
theorem unpack_ref {m c : Nat} {A : Option Addr} {l : List UInt8} {h0 : Heap} (hr : Rd h0 A (l.map byteV)) (hl : l.length = m) (hm : m ≤ 137438953472) :
  Ret Tryz.prog 13 [.slice A m c] h0 fun v h' => St h0.size h0 h' [row 5 1 v ((b01 (bitsB l)).map byteV)] := by
 refine ret_of_X Tryz.func13 rfl rfl fun w0 hw0 => ?_
 simp only [argE, Nat.zero_add, Nat.reduceAdd]
 refine X_seq (X_reg (XA rfl rfl rfl (XR_nil (X_seq (X_reg (XA rfl rfl rfl (XR_nil (X_seq (X_seq ?_)))))))))
 refine X_reg (XA rfl rfl rfl (XR_nil (X_block ?_)))
 have st := (St.start h0).nilrow 5 1
 refine X_loop (fun s => m - s.1) (fun s => [(0, .slice A m c), (3, s.2), (4, .int .i64 (s.1 : Int))])
  (fun (s : Nat × Value) hp => St h0.size h0 hp [row 5 1 s.2 ((b01 (bitsB (l.take s.1))).map byteV)] ∧ s.1 ≤ m)
  (0, _) (.cons rfl (.cons rfl (.cons rfl (.nil _)))) ⟨by simpa [b01, bitsB] using st, by simp⟩ ?_
 clear st
 rintro ⟨i, v⟩ hp ⟨st, hi⟩
 simp only at st hi ⊢
 refine X_seq (X_seq (X_reg (XV rfl rfl rfl (XV rfl rfl rfl ?_))))
 refine XR_a (op_len rfl rfl rfl) rfl rfl ?_
 refine XR_a (op_lss rfl rfl) rfl rfl ?_
 refine XR_nil ?_
 refine X_if rfl (fun h => ?_) (fun h => ?_)
 ·have hlt : i < l.length := by omega
  obtain ⟨b, o, rfl, hc⟩ := (hr.ext st.low).at_ (by rw [List.length_map]; omega)
  have hcell := hc i (byteV l[i]) (by simp [hlt])
  have hsn : b01 (bitsB (l.take (i + 1))) = b01 (bitsB (l.take i)) ++ b01 (bitsN (wd 32 8) l[i].toNat) := by
   rw [List.take_succ_eq_append_getElem hlt, bitsB_append, b01_append]
   simp [bitsB]; rfl
  have hb := (l[i]).toNat_lt
  have hlb : (bitsB (l.take i)).length = 8 * i := by rw [bitsB_length, List.length_take]; omega
  have h8 : wd 32 8 = 8 := rfl
  refine X_skip (X_seq (X_block (X_reg (XV rfl rfl rfl (XV rfl rfl rfl (XV rfl rfl rfl ?_))))))
  first | refine XR_a (op_index1 rfl rfl rfl (by omega)) rfl rfl ?_ | refine XR_a (op_index rfl rfl rfl (by omega)) rfl rfl ?_
  refine XR_a (op_ld (hcell) rfl rfl rfl) rfl rfl ?_
  first | refine XR_a (op_convI rfl rfl (by simp only [inK]; omega)) rfl rfl ?_ | refine XR_a (op_convU rfl rfl rfl) rfl rfl ?_ | refine XR_a (op_conv rfl rfl) rfl rfl ?_
  refine XR_wa (opl_call (brow_ref (n := l[i].toNat) (k := 8) (by omega)) rfl (by kernel_rfl)) rfl rfl rfl ?_
  rintro v2 hp st2
  obtain ⟨A2, n2, c2, rfl, hlen2, _, _, hrd2⟩ := st2.row 0 rfl
  replace st := st.ext st2.low
  refine XR_wa (opl_append st 0 rfl (hrd2) (hlen2) (one_bytes _) (by simp [b01_length, bitsN_length, hlb, h8]; omega) rfl rfl rfl rfl rfl rfl rfl) rfl rfl rfl fun v hp st => ?_
  simp only [List.set_cons_zero, List.set_cons_succ] at st
  rw [← List.map_append, ← hsn] at st
  refine XA rfl rfl rfl (XR_nil (X_blk (X_reg (XV rfl rfl rfl ?_))))
  first | refine XR_a (op_addN (n := 1) rfl rfl (by simp only [inK]; omega)) rfl rfl ?_ | refine XR_a (op_addI rfl rfl (by simp only [inK]; omega)) rfl rfl ?_ | refine XR_a (op_add rfl rfl) rfl rfl ?_
  refine XA rfl rfl rfl (XR_nil ?_)
  exact X_again (i + 1, v) (.cons rfl (.cons rfl (.cons rfl (.nil _)))) ⟨st, by simp only; omega⟩ (by simp only; omega)
 ·refine X_exit rfl (X_seq (X_reg (XV rfl rfl rfl (XA rfl rfl rfl (XR_nil ?_)))))
  refine X_ret (.cons (.tmp rfl) .nil) ?_
  rw [List.take_of_length_le (by omega)] at st
  exact st
end Go.Bn
end
