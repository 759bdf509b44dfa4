/- The contracts of package crc's functions, and of its reference's. -/
import Derived.Test.YtigbhndidohgbaaProg
import Derived.Test.YtigbhndidohgbaaOps5
import Derived.Test.YtigbhndidohgbaaPFlip
set_option linter.unusedVariables false
set_option linter.unusedSimpArgs false
set_option maxHeartbeats 4000000
set_option maxRecDepth 20000
namespace Go.Bn
open Go Proofs

theorem xor_lt (k : Nat) {x y : Nat} (hx : x < 2 ^ k) (hy : y < 2 ^ k) : x ^^^ y < 2 ^ k := Nat.xor_lt_two_pow hx hy
theorem xor_lt32 {x y : Nat} (hx : x < 4294967296) (hy : y < 4294967296) : x ^^^ y < 4294967296 := Nat.xor_lt_two_pow (n := 32) hx hy
theorem xor_lt8 {x y : Nat} (hx : x < 256) (hy : y < 256) : x ^^^ y < 256 := Nat.xor_lt_two_pow (n := 8) hx hy

theorem turn_spec {n : Nat} (hn : n < 4294967296) (h0 : Heap) : Ret Try.prog 59 [.int .u32 (n : Int)] h0 fun v h' => v = .int .u32 (turnN n : Nat) ∧ h0 = h' := by
  refine ret_of_X Try.func59 rfl rfl fun w0 hw0 => ?_
  simp only [argE, Nat.zero_add, Nat.reduceAdd]
  refine X_seq ?_
  refine X_reg ?_
  refine XR_a (op_assign rfl) rfl rfl ?_
  refine XR_nil ?_
  refine X_seq ?_
  refine X_seq ?_
  refine X_reg ?_
  refine XR_a (op_move rfl) rfl rfl ?_
  first | refine XR_a (op_andN (n := 1) rfl rfl rfl (by simp only [IntKind.bits]; omega) (by simp only [IntKind.bits]; omega)) rfl rfl ?_ | refine XR_a (op_and rfl rfl) rfl rfl ?_
  rw [Nat.and_one_is_mod]
  refine XR_a (op_eql rfl rfl) rfl rfl ?_
  refine XR_nil ?_
  refine X_if rfl (fun h => ?_) (fun h => ?_)
  · refine X_seq ?_
    refine X_reg ?_
    refine XR_a (op_move rfl) rfl rfl ?_
    first | refine XR_a (op_shrC 1 rfl rfl (by decide)) rfl rfl ?_ | refine XR_a (op_shrN 1 rfl rfl (by decide)) rfl rfl ?_
    first | refine XR_a (op_xorN (n := 3988292384) rfl rfl rfl (by simp only [IntKind.bits]; omega) (by simp only [IntKind.bits]; omega)) rfl rfl ?_ | refine XR_a (op_xor rfl rfl) rfl rfl ?_
    refine XR_a (op_assign rfl) rfl rfl ?_
    refine XR_nil ?_
    refine X_ret (.cons (.tmp rfl) .nil) ?_
    refine ⟨?_, rfl⟩
    unfold turnN
    rw [if_pos (by omega), Nat.pow_one]; rfl
  · refine X_skip ?_
    refine X_seq ?_
    refine X_reg ?_
    refine XR_a (op_move rfl) rfl rfl ?_
    first | refine XR_a (op_shrC 1 rfl rfl (by decide)) rfl rfl ?_ | refine XR_a (op_shrN 1 rfl rfl (by decide)) rfl rfl ?_
    refine XR_a (op_assign rfl) rfl rfl ?_
    refine XR_nil ?_
    refine X_ret (.cons (.tmp rfl) .nil) ?_
    refine ⟨?_, rfl⟩
    unfold turnN
    rw [if_neg (by omega), Nat.pow_one]; rfl

/-- The table as it is made. -/
def tabU (i : Nat) : List Value := (List.range 256).map fun j => if j < i then Value.int .u32 (turnsN 8 j : Nat) else .int .u32 0
def tabV : List Value := tabU 256
theorem tabU_zero : tabU 0 = List.replicate 256 (.int .u32 0) := by
  apply List.ext_getElem
  · simp only [tabU, List.length_map, List.length_range, List.length_replicate]
  · intro i h1 h2
    simp only [tabU, List.getElem_map, List.getElem_range, List.getElem_replicate, Nat.not_lt_zero, if_false]
theorem tabU_length (i : Nat) : (tabU i).length = 256 := by simp [tabU]
theorem tabU_set (i : Nat) (h : i < 256) : (tabU i).set i (.int .u32 (turnsN 8 i : Nat)) = tabU (i + 1) := by
  apply List.ext_getElem
  · simp [tabU]
  · intro j h1 h2
    simp only [tabU, List.getElem_set, List.getElem_map, List.getElem_range]
    by_cases e : i = j
    · subst e; simp
    · rw [if_neg e]
      by_cases h3 : j < i
      · rw [if_pos h3, if_pos (by omega)]
      · rw [if_neg h3, if_neg (by omega)]
theorem tabV_get (i : Nat) (h : i < 256) : tabV[i]? = some (.int .u32 (turnsN 8 i : Nat)) := by simp [tabV, tabU, h]
theorem tabV_length : tabV.length = 256 := tabU_length _
theorem tabV_one : ∀ u ∈ tabV, Value.one u = true := by
  intro u hu
  simp only [tabV, tabU, List.mem_map] at hu
  obtain ⟨j, _, rfl⟩ := hu
  split <;> rfl

theorem make_spec (h0 : Heap) : Ret Try.prog 30 [] h0 fun v h' => v = .agg tabV.toArray ∧ Ext h0 h' := by
  refine ret_of_X Try.func30 rfl rfl fun w0 hw0 => ?_
  simp only [argE, Nat.zero_add, Nat.reduceAdd]
  have st := St.start h0
  refine X_seq ?_
  refine X_reg ?_
  refine XR_wa (opl_new (zs := List.replicate 256 (.int .u32 0)) (by kernel_rfl)) rfl rfl rfl ?_
  rintro _ hp ⟨p0, rfl, hnew⟩
  replace st := st.new hnew
  refine XR_nil ?_
  refine X_seq ?_
  refine X_reg ?_
  refine XR_wa (opl_new (zs := List.replicate 256 (.int .u32 0)) (by kernel_rfl)) rfl rfl rfl ?_
  rintro _ hp ⟨p1, rfl, hnew⟩
  replace st := st.new hnew
  clear hnew
  refine XR_nil ?_
  refine X_seq ?_
  refine X_seq ?_
  refine X_reg ?_
  refine XR_a (op_move rfl) rfl rfl ?_
  refine XR_nil ?_
  refine X_block ?_
  rw [← tabU_zero] at st
  refine X_loop (fun s => 256 - s) (fun s => [(0, .pointer (some ⟨p0, 0, none⟩)), (1, .pointer (some ⟨p1, 0, none⟩)), (4, .int .i64 (s : Int))])
    (fun (s : Nat) hp => St h0.size h0 hp [pt p1 55 (tabU s), pt p0 55 (tabU 0)] ∧ s ≤ 256)
    0 (.cons rfl (.cons rfl (.cons rfl (.nil _)))) ⟨st, by omega⟩ ?_
  clear st
  rintro i hp ⟨st, hi⟩
  refine X_seq ?_
  refine X_reg ?_
  refine XR_a (op_lss rfl rfl) rfl rfl ?_
  refine XR_nil ?_
  refine X_seq ?_
  refine X_if rfl (fun h => ?_) (fun h => ?_)
  · refine X_skip ?_
    refine X_seq ?_
    refine X_block ?_
    refine X_seq ?_
    refine X_reg ?_
    refine XR_a (op_move rfl) rfl rfl ?_
    refine XR_a (op_assign rfl) rfl rfl ?_
    refine XR_nil ?_
    refine X_seq ?_
    refine X_reg ?_
    refine XR_a (op_move rfl) rfl rfl ?_
    first | refine XR_a (op_convI rfl rfl (by simp only [inK]; omega)) rfl rfl ?_ | refine XR_a (op_convU rfl rfl rfl) rfl rfl ?_ | refine XR_a (op_conv rfl rfl) rfl rfl ?_
    refine XR_a (op_assign rfl) rfl rfl ?_
    refine XR_nil ?_
    refine X_seq ?_
    refine X_seq ?_
    refine X_reg ?_
    refine XR_a (op_move rfl) rfl rfl ?_
    refine XR_nil ?_
    refine X_block ?_
    refine X_loop (fun s => 8 - s) (fun s => [(0, .pointer (some ⟨p0, 0, none⟩)), (1, .pointer (some ⟨p1, 0, none⟩)), (2, .int .i64 (i : Int)), (4, .int .i64 (i : Int)), (3, .int .u32 (turnsN s i : Nat)), (9, .int .i64 (s : Int))])
      (fun (s : Nat) hp' => hp = hp' ∧ s ≤ 8)
      0 (.cons rfl (.cons rfl (.cons rfl (.cons rfl (.cons rfl (.cons rfl (.nil _))))))) ⟨rfl, by omega⟩ ?_
    rintro j hp1 ⟨rfl, hj⟩
    refine X_seq ?_
    refine X_reg ?_
    refine XR_a (op_lss rfl rfl) rfl rfl ?_
    refine XR_nil ?_
    refine X_seq ?_
    refine X_if rfl (fun h => ?_) (fun h => ?_)
    · refine X_skip ?_
      refine X_seq ?_
      refine X_block ?_
      refine X_reg ?_
      refine XR_a (op_move rfl) rfl rfl ?_
      refine XR_wa (opl_call (turn_spec (n := turnsN j i) (turnsN_lt j (by omega)) _) rfl (by kernel_rfl)) rfl rfl rfl ?_
      rintro _ _ ⟨rfl, rfl⟩
      rw [← turnsN_succ]
      refine XR_a (op_assign rfl) rfl rfl ?_
      refine XR_nil ?_
      refine X_blk ?_
      refine X_reg ?_
      first | refine XR_a (op_addN (n := 1) rfl rfl (by simp only [inK]; omega)) rfl rfl ?_ | refine XR_a (op_addI rfl rfl (by simp only [inK]; omega)) rfl rfl ?_ | refine XR_a (op_add rfl rfl) rfl rfl ?_
      refine XR_a (op_move rfl) rfl rfl ?_
      refine XR_nil ?_
      exact X_again (j + 1) (.cons rfl (.cons rfl (.cons rfl (.cons rfl (.cons rfl (.cons rfl (.nil _))))))) ⟨rfl, by omega⟩ (by omega)
    · obtain rfl : j = 8 := by omega
      refine X_exit rfl ?_
      refine X_reg ?_
      refine XR_a (op_move rfl) rfl rfl ?_
      refine XR_a (op_move rfl) rfl rfl ?_
      first | refine XR_a (op_indexA1 rfl rfl rfl (by omega)) rfl rfl ?_ | refine XR_a (op_indexA rfl rfl rfl (by omega)) rfl rfl ?_
      refine XR_wn (opl_store_at st 0 rfl rfl rfl (by rw [tabU_length]; omega) rfl rfl) rfl rfl fun _ hp st => ?_
      simp only [List.set_cons_zero, Nat.zero_add, Nat.mul_one] at st
      rw [tabU_set i (by omega)] at st
      refine XR_nil ?_
      refine X_blk ?_
      refine X_reg ?_
      first | refine XR_a (op_addN (n := 1) rfl rfl (by simp only [inK]; omega)) rfl rfl ?_ | refine XR_a (op_addI rfl rfl (by simp only [inK]; omega)) rfl rfl ?_ | refine XR_a (op_add rfl rfl) rfl rfl ?_
      refine XR_a (op_move rfl) rfl rfl ?_
      refine XR_nil ?_
      exact X_again (i + 1) (.cons rfl (.cons rfl (.cons rfl (.nil _)))) ⟨st, by omega⟩ (by omega)
  · refine X_exit rfl ?_
    refine X_seq ?_
    refine X_reg ?_
    obtain rfl : i = 256 := by omega
    refine XR_a (op_ldA (st.cells 0 rfl) rfl rfl (tabU_length _) rfl) rfl rfl ?_
    refine XR_wn (opl_store_whole st 1 rfl rfl rfl rfl (by rw [tabU_length]; rfl) tabV_one (by rw [tabU_length, tabU_length])) rfl rfl fun _ hp st => ?_
    simp only [List.set_cons_zero, List.set_cons_succ] at st
    refine XR_nil ?_
    refine X_ret (.cons (RV_agg rfl rfl tabV_length (st.cells 1 rfl)) .nil) ?_
    exact ⟨rfl, st.low⟩

/-- A table lies at p. -/
def Tab (hp : Heap) (p : Nat) : Prop := ∀ i, i < 256 → cellH hp ⟨p, i, none⟩ = some (.int .u32 (turnsN 8 i : Nat))
theorem St.tab {B : Nat} {h0 hp : Heap} {rs : List Res} (s : St B h0 hp rs) (j : Nat) {p : Nat} (hj : rs[j]? = some (pt p 55 tabV)) : Tab hp p := fun i hi => s.cell j hj (tabV_get i hi)
theorem Tab.ext {hp hp' : Heap} {p : Nat} (h : Tab hp p) (hx : Ext hp hp') : Tab hp' p := fun i hi => cellH_ext hx (h i hi)

theorem go_spec {p n m c : Nat} {A : Option Addr} {l : List UInt8} {h0 : Heap} (ht : Tab h0 p) (hn : n < 4294967296) (hr : Rd h0 A (l.map byteV)) (hl : l.length = m) (hm : m ≤ 140737488355328) :
    Ret Try.prog 80 [.pointer (some ⟨p, 0, none⟩), .int .u32 (n : Int), .slice A m c] h0 fun v h' => v = .int .u32 (goN n l : Nat) ∧ h0 = h' := by
  refine ret_of_X Try.func80 rfl rfl fun w0 hw0 => ?_
  simp only [argE, Nat.zero_add, Nat.reduceAdd]
  refine X_seq ?_
  refine X_reg ?_
  refine XR_a (op_assign rfl) rfl rfl ?_
  refine XR_nil ?_
  refine X_seq ?_
  refine X_seq ?_
  refine X_reg ?_
  refine XR_a (op_move rfl) rfl rfl ?_
  refine XR_a (op_ptr_nil rfl rfl rfl) rfl rfl ?_
  refine XR_nil ?_
  refine X_else rfl ?_
  refine X_skip ?_
  refine X_seq ?_
  refine X_seq ?_
  refine X_reg ?_
  refine XR_a (op_move rfl) rfl rfl ?_
  refine XR_a (op_len rfl rfl rfl) rfl rfl ?_
  refine XR_a (op_move rfl) rfl rfl ?_
  refine XR_nil ?_
  refine X_block ?_
  refine X_loop (fun s => m - s) (fun s => [(0, .pointer (some ⟨p, 0, none⟩)), (1, .int .u32 (goN n (l.take s) : Nat)), (11, .slice A m c), (12, .int .i64 (m : Int)), (13, .int .i64 (s : Int))])
    (fun (s : Nat) hp => h0 = hp ∧ s ≤ m)
    0 (.cons rfl (.cons rfl (.cons rfl (.cons rfl (.cons rfl (.nil _)))))) ⟨rfl, by omega⟩ ?_
  rintro i hp ⟨rfl, hi⟩
  refine X_seq ?_
  refine X_reg ?_
  refine XR_a (op_lss rfl rfl) rfl rfl ?_
  refine XR_nil ?_
  refine X_seq ?_
  refine X_if rfl (fun h => ?_) (fun h => ?_)
  · have hlt : i < l.length := by omega
    obtain ⟨b, o, rfl, hc⟩ : ∃ b o, A = some ⟨b, o, none⟩ ∧ ∀ i u, (l.map byteV)[i]? = some u → cellH h0 ⟨b, o + i, none⟩ = some u := by
      rcases hr with h | h
      · exfalso
        have : l = [] := by simpa using h
        subst this; simp at hlt
      · exact h
    have hcell := hc i (byteV l[i]) (by simp [hlt])
    have hstep : l.take (i + 1) = l.take i ++ [l[i]] := by rw [List.take_succ_eq_append_getElem hlt]
    have hg := goN_lt (l.take i) hn
    have hgo : goN n (l.take (i + 1)) = turnsN 8 (goN n (l.take i) ^^^ l[i].toNat) := by rw [hstep, goN_snoc]
    have hb := (l[i]).toNat_lt
    rw [turns_byte _ _ hb] at hgo
    generalize goN n (l.take i) = q at hg hgo
    have hix : q % 256 ^^^ l[i].toNat < 256 := xor_lt8 (by omega) hb
    have htb := ht _ hix
    have htl : turnsN 8 (q % 256 ^^^ l[i].toNat) < 4294967296 := turnsN_lt 8 (by omega)
    generalize hq : q % 256 ^^^ l[i].toNat = ix at hix htb htl hgo
    refine X_skip ?_
    refine X_seq ?_
    refine X_block ?_
    refine X_seq ?_
    refine X_reg ?_
    first | refine XR_a (op_index1 rfl rfl rfl (by omega)) rfl rfl ?_ | refine XR_a (op_index rfl rfl rfl (by omega)) rfl rfl ?_
    refine XR_a (op_ld (hcell) rfl rfl rfl) rfl rfl ?_
    refine XR_a (op_assign rfl) rfl rfl ?_
    refine XR_nil ?_
    refine X_reg ?_
    refine XR_a (op_move rfl) rfl rfl ?_
    refine XR_a (op_move rfl) rfl rfl ?_
    refine XR_a (op_convU rfl rfl rfl) rfl rfl ?_
    refine XR_a (op_move rfl) rfl rfl ?_
    first | refine XR_a (op_xorN rfl rfl rfl (by simp only [IntKind.bits]; omega) (by simp only [IntKind.bits]; omega)) rfl rfl ?_ | refine XR_a (op_xor rfl rfl) rfl rfl ?_
    refine XR_as (.int .u8 (ix : Int)) (by rw [← hq]; rfl) ?_
    refine XR_a (op_nilCheck rfl) rfl rfl ?_
    first | refine XR_a (op_indexA1 rfl rfl rfl (by omega)) rfl rfl ?_ | refine XR_a (op_indexA rfl rfl rfl (by omega)) rfl rfl ?_
    refine XR_a (op_ld (ad := ⟨p, ix, none⟩) htb (by simp only [ev, Env.get_cons]; simp) rfl rfl) rfl rfl ?_
    refine XR_a (op_move rfl) rfl rfl ?_
    first | refine XR_a (op_shrC 8 rfl rfl (by decide)) rfl rfl ?_ | refine XR_a (op_shrN 8 rfl rfl (by decide)) rfl rfl ?_
    first | refine XR_a (op_xorN rfl rfl rfl (by simp only [IntKind.bits]; omega) (by simp only [IntKind.bits]; omega)) rfl rfl ?_ | refine XR_a (op_xor rfl rfl) rfl rfl ?_
    refine XR_a (op_assign rfl) rfl rfl ?_
    refine XR_nil ?_
    refine X_blk ?_
    refine X_reg ?_
    first | refine XR_a (op_addN (n := 1) rfl rfl (by simp only [inK]; omega)) rfl rfl ?_ | refine XR_a (op_addI rfl rfl (by simp only [inK]; omega)) rfl rfl ?_ | refine XR_a (op_add rfl rfl) rfl rfl ?_
    refine XR_a (op_move rfl) rfl rfl ?_
    refine XR_nil ?_
    refine X_again (i + 1) (.cons rfl (.cons (by rw [hgo]; rfl) (.cons rfl (.cons rfl (.cons rfl (.nil _)))))) ⟨rfl, by omega⟩ (by omega)
  · refine X_exit rfl ?_
    refine X_seq ?_
    refine X_reg ?_
    refine XR_a (op_move rfl) rfl rfl ?_
    refine XR_a (op_assign rfl) rfl rfl ?_
    refine XR_nil ?_
    refine X_ret (.cons (.tmp rfl) .nil) ?_
    refine ⟨?_, rfl⟩
    rw [List.take_of_length_le (by omega)]; rfl

theorem go_none (n : Nat) (v : Value) (h0 : Heap) : Ret Try.prog 80 [.pointer none, .int .u32 (n : Int), v] h0 fun v h' => v = .int .u32 0 ∧ h0 = h' := by
  refine ret_of_X Try.func80 rfl rfl fun w0 hw0 => ?_
  simp only [argE, Nat.zero_add, Nat.reduceAdd]
  refine X_seq ?_
  refine X_reg ?_
  refine XR_a (op_assign rfl) rfl rfl ?_
  refine XR_nil ?_
  refine X_seq ?_
  refine X_seq ?_
  refine X_reg ?_
  refine XR_a (op_move rfl) rfl rfl ?_
  refine XR_a (op_ptr_nil rfl rfl rfl) rfl rfl ?_
  refine XR_nil ?_
  refine X_then rfl ?_
  refine X_seq ?_
  refine X_reg ?_
  refine XR_a (op_assign rfl) rfl rfl ?_
  refine XR_nil ?_
  refine X_ret (.cons (.tmp rfl) .nil) ?_
  exact ⟨rfl, rfl⟩

theorem sum_spec {p m c : Nat} {A : Option Addr} {l : List UInt8} {h0 : Heap} (ht : Tab h0 p) (hr : Rd h0 A (l.map byteV)) (hl : l.length = m) (hm : m ≤ 140737488355328) :
    Ret Try.prog 61 [.pointer (some ⟨p, 0, none⟩), .slice A m c] h0 fun v h' => v = .int .u32 (sumN l : Nat) ∧ h0 = h' := by
  have hg := goN_lt l (n := 4294967295) (by omega)
  refine ret_of_X Try.func61 rfl rfl fun w0 hw0 => ?_
  simp only [argE, Nat.zero_add, Nat.reduceAdd]
  refine X_seq ?_
  refine X_reg ?_
  refine XR_a (op_assign rfl) rfl rfl ?_
  refine XR_nil ?_
  refine X_seq ?_
  refine X_seq ?_
  refine X_reg ?_
  refine XR_a (op_move rfl) rfl rfl ?_
  refine XR_a (op_ptr_nil rfl rfl rfl) rfl rfl ?_
  refine XR_nil ?_
  refine X_else rfl ?_
  refine X_skip ?_
  refine X_seq ?_
  refine X_reg ?_
  refine XR_a (op_move rfl) rfl rfl ?_
  refine XR_a (op_move rfl) rfl rfl ?_
  refine XR_wa (opl_call (go_spec (n := 4294967295) ht (by omega) hr hl hm) rfl (by kernel_rfl)) rfl rfl rfl ?_
  rintro _ _ ⟨rfl, rfl⟩
  refine XR_a (op_xorN (n := 4294967295) rfl rfl rfl (by simp only [IntKind.bits]; omega) (by simp only [IntKind.bits]; omega)) rfl rfl ?_
  refine XR_a (op_assign rfl) rfl rfl ?_
  refine XR_nil ?_
  refine X_ret (.cons (.tmp rfl) .nil) ?_
  exact ⟨rfl, rfl⟩

theorem sum_none (v : Value) (h0 : Heap) : Ret Try.prog 61 [.pointer none, v] h0 fun v h' => v = .int .u32 0 ∧ h0 = h' := by
  refine ret_of_X Try.func61 rfl rfl fun w0 hw0 => ?_
  simp only [argE, Nat.zero_add, Nat.reduceAdd]
  refine X_seq ?_
  refine X_reg ?_
  refine XR_a (op_assign rfl) rfl rfl ?_
  refine XR_nil ?_
  refine X_seq ?_
  refine X_seq ?_
  refine X_reg ?_
  refine XR_a (op_move rfl) rfl rfl ?_
  refine XR_a (op_ptr_nil rfl rfl rfl) rfl rfl ?_
  refine XR_nil ?_
  refine X_then rfl ?_
  refine X_seq ?_
  refine X_reg ?_
  refine XR_a (op_assign rfl) rfl rfl ?_
  refine XR_nil ?_
  refine X_ret (.cons (.tmp rfl) .nil) ?_
  exact ⟨rfl, rfl⟩

theorem turns_ref {n k : Nat} (hn : n < 4294967296) (hk : k ≤ 1000) (h0 : Heap) : Ret Try.prog 86 [.int .u32 (n : Int), .int .i64 (k : Int)] h0 fun v h' => v = .int .u32 (turnsN k n : Nat) ∧ h0 = h' := by
  refine ret_of_X Try.func86 rfl rfl fun w0 hw0 => ?_
  simp only [argE, Nat.zero_add, Nat.reduceAdd]
  refine X_seq ?_
  refine X_reg ?_
  refine XR_a (op_assign rfl) rfl rfl ?_
  refine XR_nil ?_
  refine X_seq ?_
  refine X_seq ?_
  refine X_reg ?_
  refine XR_a (op_assign rfl) rfl rfl ?_
  refine XR_nil ?_
  refine X_block ?_
  refine X_loop (fun s => k - s) (fun s => [(0, .int .u32 (turnsN s n : Nat)), (1, .int .i64 (k : Int)), (5, .int .i64 (s : Int))])
    (fun (s : Nat) hp => h0 = hp ∧ s ≤ k)
    0 (.cons rfl (.cons rfl (.cons rfl (.nil _)))) ⟨rfl, by omega⟩ ?_
  rintro i hp ⟨rfl, hi⟩
  refine X_seq ?_
  refine X_seq ?_
  refine X_reg ?_
  refine XR_a (op_move rfl) rfl rfl ?_
  refine XR_a (op_move rfl) rfl rfl ?_
  refine XR_a (op_lss rfl rfl) rfl rfl ?_
  refine XR_nil ?_
  refine X_if rfl (fun h => ?_) (fun h => ?_)
  · have hlt := turnsN_lt i hn
    have hs := turnsN_succ i n
    generalize turnsN i n = q at hlt hs
    refine X_skip ?_
    refine X_seq ?_
    refine X_block ?_
    refine X_seq ?_
    refine X_reg ?_
    refine XR_a (op_move rfl) rfl rfl ?_
    first | refine XR_a (op_remN (n := 2) rfl rfl (by omega)) rfl rfl ?_ | refine XR_a (op_remI rfl rfl (by omega) (by omega)) rfl rfl ?_ | refine XR_a (op_rem rfl rfl (by omega)) rfl rfl ?_
    refine XR_a (op_assign rfl) rfl rfl ?_
    refine XR_nil ?_
    refine X_seq ?_
    refine X_reg ?_
    refine XR_a (op_move rfl) rfl rfl ?_
    first | refine XR_a (op_quoN (n := 2) rfl rfl (by omega) (by simp only [inK]; omega)) rfl rfl ?_ | refine XR_a (op_quoI rfl rfl (by omega) (by omega) (by simp only [inK]; omega)) rfl rfl ?_ | refine XR_a (op_quo rfl rfl (by omega)) rfl rfl ?_
    refine XR_a (op_assign rfl) rfl rfl ?_
    refine XR_nil ?_
    refine X_seq ?_
    refine X_reg ?_
    refine XR_a (op_move rfl) rfl rfl ?_
    refine XR_a (op_eql rfl rfl) rfl rfl ?_
    refine XR_nil ?_
    refine X_if rfl (fun h => ?_) (fun h => ?_)
    · refine X_reg ?_
      refine XR_a (op_move rfl) rfl rfl ?_
      first | refine XR_a (op_xorN (n := 3988292384) rfl rfl rfl (by simp only [IntKind.bits]; omega) (by simp only [IntKind.bits]; omega)) rfl rfl ?_ | refine XR_a (op_xor rfl rfl) rfl rfl ?_
      refine XR_a (op_assign rfl) rfl rfl ?_
      refine XR_nil ?_
      refine X_blk ?_
      refine X_reg ?_
      refine XR_a (op_move rfl) rfl rfl ?_
      first | refine XR_a (op_addN (n := 1) rfl rfl (by simp only [inK]; omega)) rfl rfl ?_ | refine XR_a (op_addI rfl rfl (by simp only [inK]; omega)) rfl rfl ?_ | refine XR_a (op_add rfl rfl) rfl rfl ?_
      refine XR_a (op_assign rfl) rfl rfl ?_
      refine XR_nil ?_
      have e : turnsN (i + 1) n = q / 2 ^^^ 3988292384 := by rw [hs]; unfold turnN; rw [if_pos (by omega)]
      exact X_again (i + 1) (.cons (by rw [e]; rfl) (.cons rfl (.cons rfl (.nil _)))) ⟨rfl, by omega⟩ (by omega)
    · refine X_skip ?_
      refine X_blk ?_
      refine X_reg ?_
      refine XR_a (op_move rfl) rfl rfl ?_
      first | refine XR_a (op_addN (n := 1) rfl rfl (by simp only [inK]; omega)) rfl rfl ?_ | refine XR_a (op_addI rfl rfl (by simp only [inK]; omega)) rfl rfl ?_ | refine XR_a (op_add rfl rfl) rfl rfl ?_
      refine XR_a (op_assign rfl) rfl rfl ?_
      refine XR_nil ?_
      have e : turnsN (i + 1) n = q / 2 := by rw [hs]; unfold turnN; rw [if_neg (by omega)]
      exact X_again (i + 1) (.cons (by rw [e]; rfl) (.cons rfl (.cons rfl (.nil _)))) ⟨rfl, by omega⟩ (by omega)
  · refine X_exit rfl ?_
    refine X_seq ?_
    refine X_reg ?_
    refine XR_a (op_move rfl) rfl rfl ?_
    refine XR_a (op_assign rfl) rfl rfl ?_
    refine XR_nil ?_
    refine X_ret (.cons (.tmp rfl) .nil) ?_
    obtain rfl : i = k := by omega
    exact ⟨rfl, rfl⟩

theorem go_ref {n m c : Nat} {A : Option Addr} {l : List UInt8} {h0 : Heap} (hn : n < 4294967296) (hr : Rd h0 A (l.map byteV)) (hl : l.length = m) (hm : m ≤ 140737488355328) :
    Ret Try.prog 81 [.int .u32 (n : Int), .slice A m c] h0 fun v h' => v = .int .u32 (goN n l : Nat) ∧ h0 = h' := by
  refine ret_of_X Try.func81 rfl rfl fun w0 hw0 => ?_
  simp only [argE, Nat.zero_add, Nat.reduceAdd]
  refine X_seq ?_
  refine X_reg ?_
  refine XR_a (op_assign rfl) rfl rfl ?_
  refine XR_nil ?_
  refine X_seq ?_
  refine X_seq ?_
  refine X_reg ?_
  refine XR_a (op_assign rfl) rfl rfl ?_
  refine XR_nil ?_
  refine X_block ?_
  refine X_loop (fun s => m - s) (fun s => [(0, .int .u32 (goN n (l.take s) : Nat)), (1, .slice A m c), (5, .int .i64 (s : Int))])
    (fun (s : Nat) hp => h0 = hp ∧ s ≤ m)
    0 (.cons rfl (.cons rfl (.cons rfl (.nil _)))) ⟨rfl, by omega⟩ ?_
  rintro i hp ⟨rfl, hi⟩
  refine X_seq ?_
  refine X_seq ?_
  refine X_reg ?_
  refine XR_a (op_move rfl) rfl rfl ?_
  refine XR_a (op_move rfl) rfl rfl ?_
  refine XR_a (op_len rfl rfl rfl) rfl rfl ?_
  refine XR_a (op_lss rfl rfl) rfl rfl ?_
  refine XR_nil ?_
  refine X_if rfl (fun h => ?_) (fun h => ?_)
  · have hlt : i < l.length := by omega
    obtain ⟨b, o, rfl, hc⟩ := hr.at_ (by simp; omega)
    have hcell := hc i (byteV l[i]) (by simp [hlt])
    have hstep : l.take (i + 1) = l.take i ++ [l[i]] := by rw [List.take_succ_eq_append_getElem hlt]
    have hg := goN_lt (l.take i) hn
    have hgo : goN n (l.take (i + 1)) = turnsN 8 (goN n (l.take i) ^^^ l[i].toNat) := by rw [hstep, goN_snoc]
    have hb := (l[i]).toNat_lt
    generalize goN n (l.take i) = q at hg hgo
    have hx := xor_lt32 hg (show l[i].toNat < 4294967296 by omega)
    refine X_skip ?_
    refine X_seq ?_
    refine X_block ?_
    refine X_reg ?_
    refine XR_a (op_move rfl) rfl rfl ?_
    refine XR_a (op_move rfl) rfl rfl ?_
    refine XR_a (op_move rfl) rfl rfl ?_
    first | refine XR_a (op_index1 rfl rfl rfl (by omega)) rfl rfl ?_ | refine XR_a (op_index rfl rfl rfl (by omega)) rfl rfl ?_
    refine XR_a (op_ld (hcell) rfl rfl rfl) rfl rfl ?_
    first | refine XR_a (op_convI rfl rfl (by simp only [inK]; omega)) rfl rfl ?_ | refine XR_a (op_convU rfl rfl rfl) rfl rfl ?_ | refine XR_a (op_conv rfl rfl) rfl rfl ?_
    first | refine XR_a (op_xorN rfl rfl rfl (by simp only [IntKind.bits]; omega) (by simp only [IntKind.bits]; omega)) rfl rfl ?_ | refine XR_a (op_xor rfl rfl) rfl rfl ?_
    refine XR_wa (opl_call (turns_ref (k := 8) hx (by omega) _) rfl (by kernel_rfl)) rfl rfl rfl ?_
    rintro _ _ ⟨rfl, rfl⟩
    refine XR_a (op_assign rfl) rfl rfl ?_
    refine XR_nil ?_
    refine X_blk ?_
    refine X_reg ?_
    refine XR_a (op_move rfl) rfl rfl ?_
    first | refine XR_a (op_addN (n := 1) rfl rfl (by simp only [inK]; omega)) rfl rfl ?_ | refine XR_a (op_addI rfl rfl (by simp only [inK]; omega)) rfl rfl ?_ | refine XR_a (op_add rfl rfl) rfl rfl ?_
    refine XR_a (op_assign rfl) rfl rfl ?_
    refine XR_nil ?_
    refine X_again (i + 1) (.cons (by rw [hgo]; rfl) (.cons rfl (.cons rfl (.nil _)))) ⟨rfl, by omega⟩ (by omega)
  · refine X_exit rfl ?_
    refine X_seq ?_
    refine X_reg ?_
    refine XR_a (op_move rfl) rfl rfl ?_
    refine XR_a (op_assign rfl) rfl rfl ?_
    refine XR_nil ?_
    refine X_ret (.cons (.tmp rfl) .nil) ?_
    refine ⟨?_, rfl⟩
    rw [List.take_of_length_le (by omega)]; rfl

theorem sum_ref {m c : Nat} {A : Option Addr} {l : List UInt8} {h0 : Heap} (hr : Rd h0 A (l.map byteV)) (hl : l.length = m) (hm : m ≤ 140737488355328) :
    Ret Try.prog 62 [.slice A m c] h0 fun v h' => v = .int .u32 (sumN l : Nat) ∧ h0 = h' := by
  have hg := goN_lt l (n := 4294967295) (by omega)
  refine ret_of_X Try.func62 rfl rfl fun w0 hw0 => ?_
  simp only [argE, Nat.zero_add, Nat.reduceAdd]
  refine X_seq ?_
  refine X_reg ?_
  refine XR_a (op_assign rfl) rfl rfl ?_
  refine XR_nil ?_
  refine X_seq ?_
  refine X_reg ?_
  refine XR_a (op_move rfl) rfl rfl ?_
  refine XR_wa (opl_call (go_ref (n := 4294967295) (by omega) hr hl hm) rfl (by kernel_rfl)) rfl rfl rfl ?_
  rintro _ _ ⟨rfl, rfl⟩
  refine XR_a (op_subN (m := 4294967295) rfl rfl (by omega) (by simp only [inK]; omega)) rfl rfl ?_
  rw [sub_xor32 hg]
  refine XR_a (op_assign rfl) rfl rfl ?_
  refine XR_nil ?_
  refine X_ret (.cons (.tmp rfl) .nil) ?_
  exact ⟨rfl, rfl⟩

theorem same_ref {m c m2 c2 : Nat} {A A2 : Option Addr} {l l2 : List UInt8} {h0 : Heap} (hr : Rd h0 A (l.map byteV)) (hl : l.length = m) (hr2 : Rd h0 A2 (l2.map byteV)) (hl2 : l2.length = m2) :
    Ret Try.prog 46 [.slice A m c, .slice A2 m2 c2] h0 fun v h' => v = .bool (decide (l = l2)) ∧ h0 = h' := by
  refine ret_of_X Try.func46 rfl rfl fun w0 hw0 => ?_
  simp only [argE, Nat.zero_add, Nat.reduceAdd]
  refine X_seq ?_
  refine X_reg ?_
  refine XR_a (op_assign rfl) rfl rfl ?_
  refine XR_nil ?_
  refine X_seq ?_
  refine X_reg ?_
  refine XR_a (op_move rfl) rfl rfl ?_
  refine XR_a (op_str hr rfl hl rfl rfl rfl) rfl rfl ?_
  refine XR_a (op_move rfl) rfl rfl ?_
  refine XR_a (op_str hr2 rfl hl2 rfl rfl rfl) rfl rfl ?_
  refine XR_a (op_eqlS rfl rfl) rfl rfl ?_
  refine XR_a (op_assign rfl) rfl rfl ?_
  refine XR_nil ?_
  refine X_ret (.cons (.tmp rfl) .nil) ?_
  exact ⟨rfl, rfl⟩
end Go.Bn
