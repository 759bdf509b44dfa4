/- The contracts of package bits' functions, and of its reference's. -/
import Derived.Test.YtpkhilbgkkjebaaProg
import Derived.Test.YtpkhilbgkkjebaaOps4
import Derived.Test.YtpkhilbgkkjebaaPBits
import Derived.Test.YtpkhilbgkkjebaaPField
set_option linter.unusedVariables false
set_option linter.unusedSimpArgs false
set_option maxHeartbeats 4000000
set_option maxRecDepth 20000
namespace Go.Bn
open Go Proofs

theorem row_one {B : Nat} {h0 hp : Heap} {rs : List Res} (s : St B h0 hp rs) (j : Nat) {e sz : Nat} {v : Value} {vs : List Value} (hj : rs[j]? = some (row e sz v vs)) : Value.one v = true := by
  obtain ⟨A, n, c, rfl, _⟩ := s.row j hj; rfl

theorem bwidth_spec (n : Int) (hp : Heap) : Ret Try.prog 52 [.int .i64 n] hp fun v hp' => v = .int .i64 (wd 32 n : Nat) ∧ hp = hp' := by
  refine ret_of_X Try.func52 rfl rfl fun w0 hw0 => ?_
  simp only [argE, Nat.zero_add, Nat.reduceAdd]
  refine X_seq ?_
  refine X_reg ?_
  refine XR_a (op_assign rfl) rfl rfl ?_
  refine XR_nil ?_
  refine X_seq ?_
  refine X_reg ?_
  refine XR_a (op_move rfl) rfl rfl ?_
  refine XR_a (op_min2 rfl rfl) rfl rfl ?_
  refine XR_a (op_max2 rfl rfl) rfl rfl ?_
  refine XR_a (op_assign rfl) rfl rfl ?_
  refine XR_nil ?_
  refine X_ret (.cons (.tmp rfl) .nil) ?_
  refine ⟨?_, rfl⟩
  rw [wd_int]; rfl

/-- A writer's blocks: the bytes that are full, the bits that wait, and how many. -/
@[reducible] def wrG (p : Nat) (v : Value) (l : List UInt8) (x m : Nat) : Res := starR (pt p 82 [v, .int .u64 (x : Int), .int .i64 (m : Int)]) (row 5 1 v (l.map byteV))
/-- A writer of these bits. -/
def wrR (p : Nat) (bs : List Bool) : Res := exR fun (s : Value × List UInt8 × Nat × Nat) => andR (s.2.2.1 < 2 ^ s.2.2.2 ∧ s.2.2.2 < 8 ∧ bs = bitsB s.2.1 ++ bitsN s.2.2.2 s.2.2.1) (wrG p s.1 s.2.1 s.2.2.1 s.2.2.2)

/-- A writer, opened. -/
theorem St.wr {B p : Nat} {bs : List Bool} {F : List Res} {h0 hp : Heap} (st : St B h0 hp (wrR p bs :: F)) : ∃ v l x m, x < 2 ^ m ∧ m < 8 ∧ bs = bitsB l ++ bitsN m x ∧ St B h0 hp (pt p 82 [v, .int .u64 (x : Int), .int .i64 (m : Int)] :: Bn.row 5 1 v (l.map byteV) :: F) := by
  obtain ⟨⟨vb, l, x, m⟩, st1⟩ := St.ex.1 st
  obtain ⟨⟨hx, hm, hbs⟩, st⟩ := St.and.1 st1
  exact ⟨vb, l, x, m, hx, hm, hbs, St.star.1 st⟩
theorem St.unwr {B p : Nat} {F : List Res} {h0 hp : Heap} {v : Value} {l : List UInt8} {x m : Nat} (st : St B h0 hp (pt p 82 [v, .int .u64 (x : Int), .int .i64 (m : Int)] :: Bn.row 5 1 v (l.map byteV) :: F)) (hx : x < 2 ^ m) (hm : m < 8) : St B h0 hp (wrR p (bitsB l ++ bitsN m x) :: F) :=
  St.ex.2 ⟨(v, l, x, m), St.and.2 ⟨⟨hx, hm, rfl⟩, St.star.2 st⟩⟩
/-- A new writer. -/
theorem St.wr0 {B p : Nat} {F : List Res} {h0 hp : Heap} (st : St B h0 hp (pt p 82 [.slice none 0 0, .int .u64 0, .int .i64 0] :: F)) : St B h0 hp (wrR p [] :: F) := by
  have h := (st.nilrow 5 1).perm (List.Perm.swap _ _ _)
  exact St.unwr (l := []) (x := 0) (m := 0) h (by decide) (by decide)

theorem put_spec {B p n : Nat} {k : Int} {bs : List Bool} {F : List Res} {h0 : Heap} (sw : St B h0 h0 (wrR p bs :: F)) (hn : n < 4294967296) (hb : bs.length ≤ 1099511627776) :
    Ret Try.prog 49 [.pointer (some ⟨p, 0, none⟩), .int .u32 (n : Int), .int .i64 k] h0 fun v h' => v = .tuple #[] ∧ St B h0 h' (wrR p (bs ++ bitsN (wd 32 k) n) :: F) := by
  obtain ⟨vb, l, x, m, hxm, hm, hbs, st⟩ := sw.wr
  clear sw
  subst hbs
  have hwd := wd_le 32 k
  generalize hkw : wd 32 k = kw at hwd
  have hl : 8 * l.length ≤ 1099511627776 := by rw [List.length_append, bitsB_length] at hb; omega
  clear hb
  have hk2 : 2 ^ kw ≤ 4294967296 := Nat.le_trans (Nat.pow_le_pow_right (by omega) hwd) (by decide)
  have hm2 : 2 ^ m ≤ 128 := Nat.le_trans (Nat.pow_le_pow_right (by omega) (show m ≤ 7 by omega)) (by decide)
  have hk1 : 1 ≤ 2 ^ kw := Nat.two_pow_pos kw
  have hxn := put_lt (n := n) (k := kw) hxm
  have hmk : 2 ^ (m + kw) ≤ 549755813888 := Nat.le_trans (Nat.pow_le_pow_right (by omega) (show m + kw ≤ 39 by omega)) (by decide)
  have hnm : n % 2 ^ kw < 2 ^ kw := Nat.mod_lt _ hk1
  refine ret_of_X Try.func49 rfl rfl fun w0 hw0 => ?_
  simp only [argE, Nat.zero_add, Nat.reduceAdd]
  refine X_seq ?_
  refine X_seq ?_
  refine X_reg ?_
  refine XR_a (op_move rfl) rfl rfl ?_
  refine XR_a (op_ptr_nil rfl rfl rfl) rfl rfl ?_
  refine XR_nil ?_
  refine X_else rfl ?_
  refine X_skip ?_
  refine X_seq ?_
  refine X_reg ?_
  refine XR_a (op_move rfl) rfl rfl ?_
  refine XR_wa (opl_call (bwidth_spec k _) rfl (by kernel_rfl)) rfl rfl rfl ?_
  rintro _ _ ⟨rfl, rfl⟩
  rw [hkw]
  refine XR_a (op_assign rfl) rfl rfl ?_
  refine XR_nil ?_
  refine X_seq ?_
  refine X_draw byKind (by kernel_rfl) (by kernel_rfl) ?_
  refine XR_a (op_move rfl) rfl rfl ?_
  refine XR_a (op_nilCheck rfl) rfl rfl ?_
  first | refine XR_a (op_field0 rfl rfl) rfl rfl ?_ | refine XR_a (op_fieldn rfl rfl) rfl rfl ?_
  refine XR_a (op_ld (by first | assumption | exact st.cell 0 rfl rfl | exact st.cell 1 rfl rfl | exact st.cell 2 rfl rfl | exact st.cell 3 rfl rfl) rfl rfl rfl) rfl rfl ?_
  refine XR_a (op_move rfl) rfl rfl ?_
  first | refine XR_a (op_convI rfl rfl (by simp only [inK]; omega)) rfl rfl ?_ | refine XR_a (op_convU rfl rfl rfl) rfl rfl ?_ | refine XR_a (op_conv rfl rfl) rfl rfl ?_
  refine XR_a (op_move rfl) rfl rfl ?_
  refine XR_a (op_shlC (m := 1) kw rfl rfl (by simp only [IntKind.bits]; omega) (by simp only [inK]; omega)) rfl rfl ?_
  rw [Nat.one_mul]
  refine XR_a (op_subN rfl rfl hk1 (by simp only [inK]; omega)) rfl rfl ?_
  first | refine XR_a (op_andN rfl rfl rfl (by simp only [IntKind.bits]; omega) (by simp only [IntKind.bits]; omega)) rfl rfl ?_ | refine XR_a (op_and rfl rfl) rfl rfl ?_
  rw [Nat.and_two_pow_sub_one_eq_mod]
  refine XR_a (op_move rfl) rfl rfl ?_
  refine XR_a (op_nilCheck rfl) rfl rfl ?_
  first | refine XR_a (op_field0 rfl rfl) rfl rfl ?_ | refine XR_a (op_fieldn rfl rfl) rfl rfl ?_
  refine XR_a (op_ld (by first | assumption | exact st.cell 0 rfl rfl | exact st.cell 1 rfl rfl | exact st.cell 2 rfl rfl | exact st.cell 3 rfl rfl) rfl rfl rfl) rfl rfl ?_
  have hsh : n % 2 ^ kw * 2 ^ m < 2 ^ (m + kw) := by omega
  refine XR_a (op_shlC m rfl rfl (by simp only [IntKind.bits]; omega) (by simp only [inK]; omega)) rfl rfl ?_
  first | refine XR_a (op_orN rfl rfl rfl (by simp only [IntKind.bits]; omega) (by simp only [IntKind.bits]; omega)) rfl rfl ?_ | refine XR_a (op_or rfl rfl) rfl rfl ?_
  rw [or_put hxm]
  refine XR_a (op_nilCheck rfl) rfl rfl ?_
  first | refine XR_a (op_field0 rfl rfl) rfl rfl ?_ | refine XR_a (op_fieldn rfl rfl) rfl rfl ?_
  refine XR_wn (opl_store_pt st 0 rfl rfl rfl rfl rfl (rfl)) rfl rfl fun _ hp st => ?_
  simp only [List.set_cons_zero, List.set_cons_succ] at st
  refine XR_nil ?_
  refine X_seq ?_
  refine X_reg ?_
  refine XR_a (op_move rfl) rfl rfl ?_
  refine XR_a (op_nilCheck rfl) rfl rfl ?_
  first | refine XR_a (op_field0 rfl rfl) rfl rfl ?_ | refine XR_a (op_fieldn rfl rfl) rfl rfl ?_
  refine XR_a (op_ld (by first | assumption | exact st.cell 0 rfl rfl | exact st.cell 1 rfl rfl | exact st.cell 2 rfl rfl | exact st.cell 3 rfl rfl) rfl rfl rfl) rfl rfl ?_
  refine XR_a (op_move rfl) rfl rfl ?_
  first | refine XR_a (op_addN rfl rfl (by simp only [inK]; omega)) rfl rfl ?_ | refine XR_a (op_addI rfl rfl (by simp only [inK]; omega)) rfl rfl ?_ | refine XR_a (op_add rfl rfl) rfl rfl ?_
  refine XR_a (op_nilCheck rfl) rfl rfl ?_
  first | refine XR_a (op_field0 rfl rfl) rfl rfl ?_ | refine XR_a (op_fieldn rfl rfl) rfl rfl ?_
  refine XR_wn (opl_store_pt st 0 rfl rfl rfl rfl rfl (rfl)) rfl rfl fun _ hp st => ?_
  simp only [List.set_cons_zero, List.set_cons_succ] at st
  refine XR_nil ?_
  refine X_block ?_
  have htot : bitsB l ++ bitsN (m + kw) (x + n % 2 ^ kw * 2 ^ m) = bitsB l ++ bitsN m x ++ bitsN kw n := by rw [bitsN_put hxm, List.append_assoc]
  generalize bitsB l ++ bitsN m x ++ bitsN kw n = T at htot ⊢
  refine X_loop (fun s => s.2.2.2) (fun _ => [(0, .pointer (some ⟨p, 0, none⟩))])
    (fun (s : Value × List UInt8 × Nat × Nat) hp => St B h0 hp (pt p 82 [s.1, .int .u64 (s.2.2.1 : Int), .int .i64 (s.2.2.2 : Int)] :: row 5 1 s.1 (s.2.1.map byteV) :: F) ∧ s.2.2.1 < 2 ^ s.2.2.2 ∧ 8 * s.2.1.length + s.2.2.2 ≤ 1099511627876 ∧ bitsB s.2.1 ++ bitsN s.2.2.2 s.2.2.1 = T)
    (vb, l, x + n % 2 ^ kw * 2 ^ m, m + kw) (.cons rfl (.nil _)) ⟨st, hxn, by simp only; omega, htot⟩ ?_
  clear hxm hm hwd hl hk2 hm2 hk1 hxn hmk hnm hsh htot st hkw hn
  rintro ⟨v, l, x, m⟩ hp ⟨st, hxm, hl, htot⟩
  simp only at st hxm hl htot ⊢
  refine X_seq ?_
  refine X_seq ?_
  refine X_reg ?_
  refine XR_a (op_move rfl) rfl rfl ?_
  refine XR_a (op_nilCheck rfl) rfl rfl ?_
  first | refine XR_a (op_field0 rfl rfl) rfl rfl ?_ | refine XR_a (op_fieldn rfl rfl) rfl rfl ?_
  refine XR_a (op_ld (by first | assumption | exact st.cell 0 rfl rfl | exact st.cell 1 rfl rfl | exact st.cell 2 rfl rfl | exact st.cell 3 rfl rfl) rfl rfl rfl) rfl rfl ?_
  refine XR_a (op_geq rfl rfl) rfl rfl ?_
  refine XR_nil ?_
  refine X_if rfl (fun h => ?_) (fun h => ?_)
  · obtain ⟨m, rfl⟩ : ∃ m', m = 8 + m' := ⟨m - 8, by omega⟩
    refine X_skip ?_
    refine X_block ?_
    refine X_seq ?_
    refine X_draw byKind (by kernel_rfl) (by kernel_rfl) ?_
    refine XR_a (op_move rfl) rfl rfl ?_
    refine XR_a (op_move rfl) rfl rfl ?_
    refine XR_a (op_nilCheck rfl) rfl rfl ?_
    first | refine XR_a (op_field0 rfl rfl) rfl rfl ?_ | refine XR_a (op_fieldn rfl rfl) rfl rfl ?_
    refine XR_a (op_ld (by first | assumption | exact st.cell 0 rfl rfl | exact st.cell 1 rfl rfl | exact st.cell 2 rfl rfl | exact st.cell 3 rfl rfl) rfl rfl rfl) rfl rfl ?_
    refine XR_a (op_move rfl) rfl rfl ?_
    refine XR_a (op_nilCheck rfl) rfl rfl ?_
    first | refine XR_a (op_field0 rfl rfl) rfl rfl ?_ | refine XR_a (op_fieldn rfl rfl) rfl rfl ?_
    refine XR_a (op_ld (by first | assumption | exact st.cell 0 rfl rfl | exact st.cell 1 rfl rfl | exact st.cell 2 rfl rfl | exact st.cell 3 rfl rfl) rfl rfl rfl) rfl rfl ?_
    refine XR_a (op_convU rfl rfl rfl) rfl rfl ?_
    refine XR_as (byteV (UInt8.ofNat x)) (by simp [byteV, IntKind.bits]) ?_
    refine XR_ga (opl_var1 rfl rfl rfl) rfl rfl rfl (fun _ _ ⟨_, _, e, _⟩ => e) ?_
    rintro _ hp ⟨A, rfl, hx, hrd⟩
    have st := st.ext hx
    refine XR_wa (opl_append st 1 rfl (hrd) (rfl) (by simp [Value.one, byteV]) (by simp; omega) rfl rfl rfl rfl rfl rfl rfl) rfl rfl rfl fun v hp st => ?_
    simp only [List.set_cons_zero, List.set_cons_succ] at st
    refine XR_a (op_nilCheck rfl) rfl rfl ?_
    first | refine XR_a (op_field0 rfl rfl) rfl rfl ?_ | refine XR_a (op_fieldn rfl rfl) rfl rfl ?_
    refine XR_wn (opl_store_pt st 0 rfl rfl rfl rfl rfl (row_one st 1 rfl)) rfl rfl fun _ hp st => ?_
    simp only [List.set_cons_zero, List.set_cons_succ] at st
    refine XR_nil ?_
    refine X_seq ?_
    refine X_reg ?_
    refine XR_a (op_move rfl) rfl rfl ?_
    refine XR_a (op_nilCheck rfl) rfl rfl ?_
    first | refine XR_a (op_field0 rfl rfl) rfl rfl ?_ | refine XR_a (op_fieldn rfl rfl) rfl rfl ?_
    refine XR_a (op_ld (by first | assumption | exact st.cell 0 rfl rfl | exact st.cell 1 rfl rfl | exact st.cell 2 rfl rfl | exact st.cell 3 rfl rfl) rfl rfl rfl) rfl rfl ?_
    first | refine XR_a (op_shrC 8 rfl rfl (by decide)) rfl rfl ?_ | refine XR_a (op_shrN 8 rfl rfl (by decide)) rfl rfl ?_
    refine XR_a (op_nilCheck rfl) rfl rfl ?_
    first | refine XR_a (op_field0 rfl rfl) rfl rfl ?_ | refine XR_a (op_fieldn rfl rfl) rfl rfl ?_
    refine XR_wn (opl_store_pt st 0 rfl rfl rfl rfl rfl (rfl)) rfl rfl fun _ hp st => ?_
    simp only [List.set_cons_zero, List.set_cons_succ] at st
    refine XR_nil ?_
    refine X_reg ?_
    refine XR_a (op_move rfl) rfl rfl ?_
    refine XR_a (op_nilCheck rfl) rfl rfl ?_
    first | refine XR_a (op_field0 rfl rfl) rfl rfl ?_ | refine XR_a (op_fieldn rfl rfl) rfl rfl ?_
    refine XR_a (op_ld (by first | assumption | exact st.cell 0 rfl rfl | exact st.cell 1 rfl rfl | exact st.cell 2 rfl rfl | exact st.cell 3 rfl rfl) rfl rfl rfl) rfl rfl ?_
    refine XR_a (op_subN (n := 8) rfl rfl (by omega) (by simp only [inK]; omega)) rfl rfl ?_
    refine XR_a (op_nilCheck rfl) rfl rfl ?_
    first | refine XR_a (op_field0 rfl rfl) rfl rfl ?_ | refine XR_a (op_fieldn rfl rfl) rfl rfl ?_
    refine XR_wn (opl_store_pt st 0 rfl rfl rfl rfl rfl (rfl)) rfl rfl fun _ hp st => ?_
    simp only [List.set_cons_zero, List.set_cons_succ] at st
    refine XR_nil ?_
    refine X_blk ?_
    simp only [List.set_cons_zero, List.set_cons_succ, Nat.add_sub_cancel_left] at st
    rw [← List.map_singleton (f := byteV), ← List.map_append] at st
    refine X_again (v, l ++ [UInt8.ofNat x], x / 2 ^ 8, m) (.cons rfl (.nil _)) ⟨st, ?_, ?_, ?_⟩ ?_
    · simp only
      rw [Nat.pow_add] at hxm
      exact Nat.div_lt_of_lt_mul hxm
    · simp only [List.length_append, List.length_singleton]; omega
    · simp only
      rw [show 2 ^ 8 = 256 by rfl, bitsB_snoc]; exact htot
    · simp only; omega
  · refine X_exit rfl ?_
    refine X_end .nil ?_
    refine ⟨rfl, ?_⟩
    rw [← htot]
    exact st.unwr hxm (by omega)

theorem put_none (n : Nat) (k : Int) (h0 : Heap) : Ret Try.prog 49 [.pointer none, .int .u32 (n : Int), .int .i64 k] h0 fun v h' => v = .tuple #[] ∧ h0 = h' := by
  refine ret_of_X Try.func49 rfl rfl fun w0 hw0 => ?_
  simp only [argE, Nat.zero_add, Nat.reduceAdd]
  refine X_seq ?_
  refine X_seq ?_
  refine X_reg ?_
  refine XR_a (op_move rfl) rfl rfl ?_
  refine XR_a (op_ptr_nil rfl rfl rfl) rfl rfl ?_
  refine XR_nil ?_
  refine X_then rfl ?_
  refine X_ret .nil ?_
  exact ⟨rfl, rfl⟩

theorem wbytes_spec {B p : Nat} {bs : List Bool} {F : List Res} {h0 : Heap} (sw : St B h0 h0 (wrR p bs :: F)) (hb : bs.length ≤ 1099511627776) :
    Ret Try.prog 50 [.pointer (some ⟨p, 0, none⟩)] h0 fun v h' => St h0.size h0 h' [row 5 1 v ((pack bs).map byteV)] := by
  obtain ⟨vb, l, x, m, hxm, hm, hbs, sw⟩ := sw.wr
  have c0 := sw.cell 0 (i := 0) rfl rfl
  have c1 := sw.cell 0 (i := 1) rfl rfl
  have c2 := sw.cell 0 (i := 2) rfl rfl
  obtain ⟨A, n, c, rfl, hlen, hnc, hcm, hrd0⟩ := sw.row 1 rfl
  have hlen' : l.length = n := by simpa using hlen
  have hbl : bs.length = 8 * l.length + m := by rw [hbs, List.length_append, bitsB_length, bitsN_length]
  have hp0 := pack_rest m x hm hxm
  refine ret_of_X Try.func50 rfl rfl fun w0 hw0 => ?_
  simp only [argE, Nat.zero_add, Nat.reduceAdd]
  refine X_seq ?_
  refine X_reg ?_
  refine XR_a (op_assign rfl) rfl rfl ?_
  refine XR_nil ?_
  refine X_seq ?_
  refine X_seq ?_
  refine X_reg ?_
  refine XR_a (op_move rfl) rfl rfl ?_
  refine XR_a (op_ptr_nil rfl rfl rfl) rfl rfl ?_
  refine XR_nil ?_
  refine X_else rfl ?_
  refine X_skip ?_
  refine X_seq ?_
  refine X_reg ?_
  refine XR_wa (opl_lit0 rfl) rfl rfl rfl ?_
  rintro v hp hnew
  have st := (St.start h0).new hnew
  refine XR_a (op_move rfl) rfl rfl ?_
  refine XR_a (op_nilCheck rfl) rfl rfl ?_
  first | refine XR_a (op_field0 rfl rfl) rfl rfl ?_ | refine XR_a (op_fieldn rfl rfl) rfl rfl ?_
  refine XR_a (op_ld (cellH_ext st.low c0) rfl rfl rfl) rfl rfl ?_
  refine XR_wa (opl_append st 0 rfl (hrd0.ext st.low) (hlen) (one_bytes _) (by simp; omega) rfl rfl rfl rfl rfl rfl rfl) rfl rfl rfl fun v hp st => ?_
  simp only [List.set_cons_zero, List.set_cons_succ] at st
  refine XR_a (op_assign rfl) rfl rfl ?_
  refine XR_nil ?_
  refine X_seq ?_
  refine X_seq ?_
  refine X_reg ?_
  refine XR_a (op_move rfl) rfl rfl ?_
  refine XR_a (op_nilCheck rfl) rfl rfl ?_
  first | refine XR_a (op_field0 rfl rfl) rfl rfl ?_ | refine XR_a (op_fieldn rfl rfl) rfl rfl ?_
  refine XR_a (op_ld (cellH_ext st.low c2) rfl rfl rfl) rfl rfl ?_
  refine XR_a (op_gtr rfl rfl) rfl rfl ?_
  refine XR_nil ?_
  refine X_if rfl (fun h => ?_) (fun h => ?_)
  · refine X_reg ?_
    refine XR_a (op_move rfl) rfl rfl ?_
    refine XR_a (op_move rfl) rfl rfl ?_
    refine XR_a (op_nilCheck rfl) rfl rfl ?_
    first | refine XR_a (op_field0 rfl rfl) rfl rfl ?_ | refine XR_a (op_fieldn rfl rfl) rfl rfl ?_
    refine XR_a (op_ld (cellH_ext st.low c1) rfl rfl rfl) rfl rfl ?_
    refine XR_a (op_convU rfl rfl rfl) rfl rfl ?_
    refine XR_as (byteV (UInt8.ofNat x)) (by simp [byteV, IntKind.bits]) ?_
    refine XR_wa (opl_var1 rfl rfl rfl) rfl rfl rfl ?_
    rintro _ hp ⟨A, rfl, hx, hrd⟩
    have st := st.ext hx
    refine XR_wa (opl_append st 0 rfl (hrd) (rfl) (by simp [Value.one, byteV]) (by simp; omega) rfl rfl rfl rfl rfl rfl rfl) rfl rfl rfl fun v hp st => ?_
    simp only [List.set_cons_zero, List.set_cons_succ] at st
    refine XR_a (op_assign rfl) rfl rfl ?_
    refine XR_nil ?_
    refine X_seq ?_
    refine X_reg ?_
    refine XR_a (op_move rfl) rfl rfl ?_
    refine XR_a (op_assign rfl) rfl rfl ?_
    refine XR_nil ?_
    refine X_ret (.cons (.tmp rfl) .nil) ?_
    rw [if_neg (by omega)] at hp0
    rw [hbs, pack_bits, hp0, List.map_append]
    exact st
  · refine X_skip ?_
    refine X_seq ?_
    refine X_reg ?_
    refine XR_a (op_move rfl) rfl rfl ?_
    refine XR_a (op_assign rfl) rfl rfl ?_
    refine XR_nil ?_
    refine X_ret (.cons (.tmp rfl) .nil) ?_
    rw [if_pos (by omega)] at hp0
    rw [hbs, pack_bits, hp0, List.append_nil]
    exact st

theorem wbytes_none (h0 : Heap) : Ret Try.prog 50 [.pointer none] h0 fun v h' => v = .slice none 0 0 ∧ h0 = h' := by
  refine ret_of_X Try.func50 rfl rfl fun w0 hw0 => ?_
  simp only [argE, Nat.zero_add, Nat.reduceAdd]
  refine X_seq ?_
  refine X_reg ?_
  refine XR_a (op_assign rfl) rfl rfl ?_
  refine XR_nil ?_
  refine X_seq ?_
  refine X_seq ?_
  refine X_reg ?_
  refine XR_a (op_move rfl) rfl rfl ?_
  refine XR_a (op_ptr_nil rfl rfl rfl) rfl rfl ?_
  refine XR_nil ?_
  refine X_then rfl ?_
  refine X_seq ?_
  refine X_reg ?_
  refine XR_a (op_assign rfl) rfl rfl ?_
  refine XR_nil ?_
  refine X_ret (.cons (.tmp rfl) .nil) ?_
  exact ⟨rfl, rfl⟩
end Go.Bn
