/- The contracts of runs.head, one and Take. -/
import Derived.Test.YtdiglnhhmbhhjaaRuns
import Derived.Test.YtdiglnhhmbhhjaaBitsR
set_option linter.unusedVariables false
set_option linter.unusedSimpArgs false
set_option maxHeartbeats 4000000
set_option maxRecDepth 20000
namespace Go.Bn
open Go Proofs

theorem wd_nat {n : Nat} (h : n ≤ 32) : wd 32 ((n : Nat) : Int) = n := by unfold wd; omega
theorem St.re3 {B : Nat} {h0 hp : Heap} {a b c : Res} {F : List Res} (s : St B h0 hp (a :: b :: c :: F)) : St B h0 hp (b :: c :: a :: F) := s.perm ((List.Perm.swap _ _ _).trans ((List.Perm.swap _ _ _).cons _))
theorem St.re3' {B : Nat} {h0 hp : Heap} {a b c : Res} {F : List Res} (s : St B h0 hp (b :: c :: a :: F)) : St B h0 hp (b :: c :: F) := (s.perm (((List.Perm.swap _ _ _).cons _).trans (List.Perm.swap _ _ _))).tail
def okR (bs : List Bool) (a : Nat) : Bool := decide (rightC ((lens19 bs (a + 9) 19).map fun n : Nat => (n : Int)))
theorem cast_toNat (ls : List Nat) : (ls.map fun n : Nat => (n : Int)).map Int.toNat = ls := by
  rw [List.map_map]
  conv => rhs; rw [← List.map_id ls]
  exact List.map_congr_left fun x _ => by simp

theorem head_spec {B q m c a : Nat} {A : Option Addr} {l : List UInt8} {F : List Res} {h0 : Heap} (st : St B h0 h0 (rdG q A m c a :: F)) (hrB : ∀ h', Low B h0 h' → Rd h' A (l.map byteV)) (hl : l.length = m) (hm : m ≤ 1073741824) (ha : a ≤ 8 * m) :
    Ret Try.prog 77 [.pointer (some ⟨q, 0, none⟩)] h0 fun v h' => ∃ n' w a', v = retVal [n', w, nV (headE (bitsB l) a (okR (bitsB l) a))] ∧ a' ≤ 8 * m ∧
      (headE (bitsB l) a (okR (bitsB l) a) = 0 → n' = nV (numB (bitsB l) a 9) ∧ a + 85 ≤ 8 * m ∧ lensOK (lens19 (bitsB l) (a + 9) 19) ∧ ∃ p, w = .pointer (some ⟨p, 0, none⟩) ∧ St B h0 h' (codeR p (lens19 (bitsB l) (a + 9) 19) :: rdG q A m c (a + 85) :: F)) ∧
      (headE (bitsB l) a (okR (bitsB l) a) ≠ 0 → St B h0 h' (rdG q A m c a' :: F)) := by
  have hbl : (bitsB l).length = 8 * m := by rw [bitsB_length, hl]
  have hH : headE (bitsB l) a (okR (bitsB l) a) = if (bitsB l).length < a + 9 then 2 else if numB (bitsB l) a 9 < 1 ∨ 320 < numB (bitsB l) a 9 then 5 else if (bitsB l).length < a + 85 then 2 else if okR (bitsB l) a = true then 0 else 13 := rfl
  have hn9 := numB_lt (bitsB l) a 9
  have hn4 := fun i => numB_lt (bitsB l) (a + 9 + 4 * i) 4
  have hok : okR (bitsB l) a = decide (rightC ((lens19 (bitsB l) (a + 9) 19).map fun n : Nat => (n : Int))) := rfl
  obtain ⟨bs, hbs⟩ : ∃ bs, bitsB l = bs := ⟨_, rfl⟩
  simp only [hbs] at hbl hH hn9 hn4 hok ⊢
  obtain ⟨e, he⟩ : ∃ e, headE bs a (okR bs a) = e := ⟨_, rfl⟩
  rw [he] at hH ⊢
  refine ret_of_X Try.func77 rfl rfl fun w0 hw0 => ?_
  simp only [argE, Nat.zero_add, Nat.reduceAdd]
  refine X_seq ?_
  refine X_reg ?_
  refine XR_a (op_assign rfl) rfl rfl ?_
  by_cases h9 : 9 ≤ 8 * m - a
  · refine XR_a (op_assign rfl) rfl rfl ?_
    refine XR_a (op_assign rfl) rfl rfl ?_
    refine XR_nil ?_
    refine X_seq ?_
    refine X_reg ?_
    refine XR_a (op_move rfl) rfl rfl ?_
    refine XR_wa (opl_call (rtake_spec (k := 9) st (hrB _ st.low) hl (by omega) ha) rfl (by kernel_rfl)) rfl rfl rfl ?_
    rintro _ hp ⟨rfl, st1⟩
    rw [show wd 32 9 = 9 from rfl, if_pos h9] at st1
    rw [show wd 32 9 = 9 from rfl, hbs, if_pos h9, decide_eq_true h9]
    refine XR_a (op_move rfl) rfl rfl ?_
    refine XR_a (op_extract rfl rfl) rfl rfl ?_
    refine XR_a (op_extract rfl rfl) rfl rfl ?_
    refine XR_a (op_assign rfl) rfl rfl ?_
    refine XR_a (op_assign rfl) rfl rfl ?_
    refine XR_nil ?_
    refine X_seq ?_
    refine X_seq ?_
    refine X_reg ?_
    refine XR_a (op_move rfl) rfl rfl ?_
    refine XR_a (op_not rfl) rfl rfl ?_
    refine XR_nil ?_
    refine X_else rfl ?_
    refine X_skip ?_
    refine X_seq ?_
    refine X_seq ?_
    refine X_reg ?_
    refine XR_a (op_move rfl) rfl rfl ?_
    refine XR_a (op_lss rfl rfl) rfl rfl ?_
    refine XR_a (op_move rfl) rfl rfl ?_
    refine XR_if 22 rfl (fun h => ?_) (fun h => ?_)
    · have h22 := h
      refine XR_no rfl rfl ?_
      refine XR_no rfl rfl ?_
      refine XR_a (op_pick_t rfl rfl) rfl rfl ?_
      refine XR_nil ?_
      refine X_then rfl ?_
      refine X_seq ?_
      refine X_reg ?_
      refine XR_a (op_assign rfl) rfl rfl ?_
      refine XR_a (op_assign rfl) rfl rfl ?_
      refine XR_a (op_assign rfl) rfl rfl ?_
      refine XR_nil ?_
      refine X_ret (.cons (.tmp rfl) (.cons (.tmp rfl) (.cons (.tmp rfl) .nil))) ?_
      have he5 : e = 5 := by rw [hH, if_neg (by omega), if_pos (by omega)]
      rw [he5]
      exact ⟨_, _, a + 9, rfl, by omega, fun hh => absurd hh (by omega), fun _ => st1⟩
    · have h22 := h
      refine XR_a (op_move rfl) rfl rfl ?_
      refine XR_a (op_gtr rfl rfl) rfl rfl ?_
      refine XR_a (op_pick_f rfl rfl) rfl rfl ?_
      refine XR_nil ?_
      refine X_if rfl (fun h => ?_) (fun h => ?_)
      · have hbad : numB bs a 9 < 1 ∨ 320 < numB bs a 9 := by omega
        refine X_seq ?_
        refine X_reg ?_
        refine XR_a (op_assign rfl) rfl rfl ?_
        refine XR_a (op_assign rfl) rfl rfl ?_
        refine XR_a (op_assign rfl) rfl rfl ?_
        refine XR_nil ?_
        refine X_ret (.cons (.tmp rfl) (.cons (.tmp rfl) (.cons (.tmp rfl) .nil))) ?_
        have he5 : e = 5 := by rw [hH, if_neg (by omega), if_pos hbad]
        rw [he5]
        exact ⟨_, _, a + 9, rfl, by omega, fun hh => absurd hh (by omega), fun _ => st1⟩
      · refine X_skip ?_
        refine X_seq ?_
        refine X_reg ?_
        refine XR_wa (opl_mk (n := 19) (by omega) rfl rfl rfl) rfl rfl rfl ?_
        rintro v hp hnew
        have st := st1.new hnew
        obtain ⟨go, no, co, rfl, hno, _⟩ := st.row0 0 rfl (by rw [List.length_replicate]; omega)
        obtain rfl : no = 19 := by simpa using hno.symm
        refine XR_a (op_assign rfl) rfl rfl ?_
        refine XR_nil ?_
        refine X_seq ?_
        refine X_seq ?_
        refine X_reg ?_
        refine XR_a (op_move rfl) rfl rfl ?_
        refine XR_a (op_len rfl rfl rfl) rfl rfl ?_
        refine XR_a (op_move rfl) rfl rfl ?_
        refine XR_nil ?_
        refine X_block ?_
        have hz : List.replicate 19 (Value.int .i64 0) = (lens19 bs (a + 9) 0).map nV := by rw [lens19_zero, List.map_replicate]; rfl
        rw [hz] at st
        refine X_loop (fun i => 19 - i) (fun i => [(0, .pointer (some ⟨q, 0, none⟩)), (5, .int .u32 (numB bs a 9 : Nat)), (7, .slice (some ⟨go, 0, none⟩) 19 co), (28, nV 19), (29, nV i)])
          (fun (i : Nat) hp => i ≤ 19 ∧ a + 9 + 4 * i ≤ 8 * m ∧ St B h0 hp (Bn.row 3 1 (.slice (some ⟨go, 0, none⟩) 19 co) ((lens19 bs (a + 9) i).map nV) :: rdG q A m c (a + 9 + 4 * i) :: F))
          0 (.cons rfl (.cons rfl (.cons rfl (.cons rfl (.cons rfl (.nil _)))))) ⟨by omega, by omega, st⟩ ?_
        clear st st1
        rintro i hp ⟨hi, hia, st⟩
        refine X_seq ?_
        refine X_reg ?_
        refine XR_a (op_lss rfl rfl) rfl rfl ?_
        refine XR_nil ?_
        refine X_seq ?_
        refine X_if rfl (fun h => ?_) (fun h => ?_)
        · refine X_skip ?_
          refine X_seq ?_
          refine X_block ?_
          refine X_seq ?_
          refine X_reg ?_
          refine XR_a (op_move rfl) rfl rfl ?_
          refine XR_a (op_assign rfl) rfl rfl ?_
          by_cases h4 : 4 ≤ 8 * m - (a + 9 + 4 * i)
          · refine XR_nil ?_
            refine X_seq ?_
            refine X_reg ?_
            refine XR_a (op_move rfl) rfl rfl ?_
            refine XR_wa (opl_call (rtake_spec (k := 4) (st.here.perm (List.Perm.swap _ _ _)) (hrB _ st.low) hl (by omega) hia) rfl (by kernel_rfl)) rfl rfl rfl ?_
            rintro _ hp2 ⟨rfl, st2⟩
            rw [show wd 32 4 = 4 from rfl, if_pos h4] at st2
            rw [show wd 32 4 = 4 from rfl, hbs, if_pos h4, decide_eq_true h4]
            have hlt4 := hn4 i
            replace st := st.trans (st2.perm (List.Perm.swap _ _ _))
            refine XR_a (op_move rfl) rfl rfl ?_
            refine XR_a (op_extract rfl rfl) rfl rfl ?_
            refine XR_a (op_extract rfl rfl) rfl rfl ?_
            refine XR_a (op_assign rfl) rfl rfl ?_
            refine XR_a (op_assign rfl) rfl rfl ?_
            refine XR_nil ?_
            refine X_seq ?_
            refine X_seq ?_
            refine X_reg ?_
            refine XR_a (op_move rfl) rfl rfl ?_
            refine XR_a (op_not rfl) rfl rfl ?_
            refine XR_nil ?_
            refine X_else rfl ?_
            refine X_skip ?_
            refine X_reg ?_
            refine XR_a (op_move rfl) rfl rfl ?_
            refine XR_a (op_move rfl) rfl rfl ?_
            refine XR_a (op_move rfl) rfl rfl ?_
            refine XR_a (op_convI (k' := .i64) rfl rfl (by simp only [inK]; omega)) rfl rfl ?_
            first | refine XR_a (op_index1 rfl rfl rfl (by omega)) rfl rfl ?_ | refine XR_a (op_index rfl rfl rfl (by omega)) rfl rfl ?_
            refine XR_wn (opl_store_row (o := 0) (i := i) (v := nV (numB bs (a + 9 + 4 * i) 4)) st 0 rfl (congrArg (fun x => some (Value.pointer (some ⟨go, x, none⟩))) (by omega)) rfl (by rw [List.length_map, lens19_len]; omega) rfl rfl) rfl rfl fun _ hp st => ?_
            simp only [List.set_cons_zero] at st
            rw [map_set_nV, lens19_set (by omega)] at st
            refine XR_nil ?_
            refine X_blk ?_
            refine X_reg ?_
            first | refine XR_a (op_addN (n := 1) rfl rfl (by simp only [inK]; omega)) rfl rfl ?_ | refine XR_a (op_addI rfl rfl (by simp only [inK]; omega)) rfl rfl ?_ | refine XR_a (op_add rfl rfl) rfl rfl ?_
            refine XR_a (op_move rfl) rfl rfl ?_
            refine XR_nil ?_
            exact X_again (i + 1) (.cons rfl (.cons rfl (.cons rfl (.cons rfl (.cons rfl (.nil _)))))) ⟨by omega, by omega, st⟩ (by omega)
          · refine XR_nil ?_
            refine X_seq ?_
            refine X_reg ?_
            refine XR_a (op_move rfl) rfl rfl ?_
            refine XR_wa (opl_call (rtake_spec (k := 4) (st.here.perm (List.Perm.swap _ _ _)) (hrB _ st.low) hl (by omega) hia) rfl (by kernel_rfl)) rfl rfl rfl ?_
            rintro _ hp2 ⟨rfl, st2⟩
            rw [show wd 32 4 = 4 from rfl, if_neg h4] at st2
            rw [show wd 32 4 = 4 from rfl, hbs, if_neg h4, decide_eq_false h4]
            replace st := st.trans (st2.perm (List.Perm.swap _ _ _))
            refine XR_a (op_move rfl) rfl rfl ?_
            refine XR_a (op_extract rfl rfl) rfl rfl ?_
            refine XR_a (op_extract rfl rfl) rfl rfl ?_
            refine XR_a (op_assign rfl) rfl rfl ?_
            refine XR_a (op_assign rfl) rfl rfl ?_
            refine XR_nil ?_
            refine X_seq ?_
            refine X_seq ?_
            refine X_reg ?_
            refine XR_a (op_move rfl) rfl rfl ?_
            refine XR_a (op_not rfl) rfl rfl ?_
            refine XR_nil ?_
            refine X_then rfl ?_
            refine X_seq ?_
            refine X_reg ?_
            refine XR_a (op_assign rfl) rfl rfl ?_
            refine XR_a (op_assign rfl) rfl rfl ?_
            refine XR_a (op_assign rfl) rfl rfl ?_
            refine XR_nil ?_
            refine X_ret (.cons (.tmp rfl) (.cons (.tmp rfl) (.cons (.tmp rfl) .nil))) ?_
            have he2 : e = 2 := by rw [hH, if_neg (by omega), if_neg (by omega), if_pos (by omega)]
            rw [he2]
            exact ⟨_, _, _, rfl, hia, fun hh => absurd hh (by omega), fun _ => st.tail⟩
        · refine X_exit rfl ?_
          refine X_seq ?_
          obtain rfl : i = 19 := by omega
          have hrdL := (st.rdS 0 rfl).2
          rw [nV_iV] at hrdL
          refine X_reg ?_
          refine XR_a (op_move rfl) rfl rfl ?_
          by_cases hR : rightC ((lens19 bs (a + 9) 19).map fun n : Nat => (n : Int))
          · refine XR_wa (opl_call (cnew_spec hrdL (by rw [List.length_map, lens19_len]) (by omega)) rfl (by kernel_rfl)) rfl rfl rfl ?_
            rintro _ hp5 ⟨w, rfl, hx5, hy5, hz5⟩
            refine XR_a (op_move rfl) rfl rfl ?_
            refine XR_a (op_extract rfl rfl) rfl rfl ?_
            refine XR_a (op_extract rfl rfl) rfl rfl ?_
            refine XR_a (op_assign rfl) rfl rfl ?_
            refine XR_a (op_assign rfl) rfl rfl ?_
            refine XR_nil ?_
            refine X_seq ?_
            refine X_reg ?_
            refine XR_a (op_move rfl) rfl rfl ?_
            refine XR_a (op_convI (k' := .i64) rfl rfl (by simp only [inK]; omega)) rfl rfl ?_
            refine XR_a (op_move rfl) rfl rfl ?_
            refine XR_a (op_move rfl) rfl rfl ?_
            refine XR_a (op_assign rfl) rfl rfl ?_
            refine XR_a (op_assign rfl) rfl rfl ?_
            refine XR_a (op_assign rfl) rfl rfl ?_
            refine XR_nil ?_
            refine X_ret (.cons (.tmp rfl) (.cons (.tmp rfl) (.cons (.tmp rfl) .nil))) ?_
            have he0 : e = 0 := by rw [hH, if_neg (by omega), if_neg (by omega), if_neg (by omega), hok, decide_eq_true hR]; rfl
            obtain ⟨p, rfl, sc⟩ := hy5 hR
            rw [cast_toNat] at sc
            have hlok := hR.ok
            rw [cast_toNat] at hlok
            rw [he0, errC_zero.2 hR]
            refine ⟨_, _, 0, rfl, by omega, fun _ => ⟨rfl, by omega, hlok, p, rfl, ?_⟩, fun hh => absurd rfl hh⟩
            have := st.join sc
            simp only [List.cons_append, List.nil_append] at this
            exact (this.perm (List.Perm.swap _ _ _)).tail
          · refine XR_wa (opl_call (cnew_spec hrdL (by rw [List.length_map, lens19_len]) (by omega)) rfl (by kernel_rfl)) rfl rfl rfl ?_
            rintro _ hp5 ⟨w, rfl, hx5, hy5, hz5⟩
            refine XR_a (op_move rfl) rfl rfl ?_
            refine XR_a (op_extract rfl rfl) rfl rfl ?_
            refine XR_a (op_extract rfl rfl) rfl rfl ?_
            refine XR_a (op_assign rfl) rfl rfl ?_
            refine XR_a (op_assign rfl) rfl rfl ?_
            refine XR_nil ?_
            refine X_seq ?_
            refine X_reg ?_
            refine XR_a (op_move rfl) rfl rfl ?_
            refine XR_a (op_convI (k' := .i64) rfl rfl (by simp only [inK]; omega)) rfl rfl ?_
            refine XR_a (op_move rfl) rfl rfl ?_
            refine XR_a (op_move rfl) rfl rfl ?_
            refine XR_a (op_assign rfl) rfl rfl ?_
            refine XR_a (op_assign rfl) rfl rfl ?_
            refine XR_a (op_assign rfl) rfl rfl ?_
            refine XR_nil ?_
            refine X_ret (.cons (.tmp rfl) (.cons (.tmp rfl) (.cons (.tmp rfl) .nil))) ?_
            have he13 : e = 13 := by rw [hH, if_neg (by omega), if_neg (by omega), if_neg (by omega), hok, decide_eq_false hR]; rfl
            have hec : errC ((lens19 bs (a + 9) 19).map fun n : Nat => (n : Int)) = 13 := by unfold errC; rw [if_neg hR]
            rw [he13, hec]
            exact ⟨_, _, _, rfl, hia, fun hh => absurd hh (by omega), fun _ => (st.ext hx5).tail⟩
  · refine XR_a (op_assign rfl) rfl rfl ?_
    refine XR_a (op_assign rfl) rfl rfl ?_
    refine XR_nil ?_
    refine X_seq ?_
    refine X_reg ?_
    refine XR_a (op_move rfl) rfl rfl ?_
    refine XR_wa (opl_call (rtake_spec (k := 9) st (hrB _ st.low) hl (by omega) ha) rfl (by kernel_rfl)) rfl rfl rfl ?_
    rintro _ hp ⟨rfl, st1⟩
    rw [show wd 32 9 = 9 from rfl, if_neg h9] at st1
    rw [show wd 32 9 = 9 from rfl, hbs, if_neg h9, decide_eq_false h9]
    refine XR_a (op_move rfl) rfl rfl ?_
    refine XR_a (op_extract rfl rfl) rfl rfl ?_
    refine XR_a (op_extract rfl rfl) rfl rfl ?_
    refine XR_a (op_assign rfl) rfl rfl ?_
    refine XR_a (op_assign rfl) rfl rfl ?_
    refine XR_nil ?_
    refine X_seq ?_
    refine X_seq ?_
    refine X_reg ?_
    refine XR_a (op_move rfl) rfl rfl ?_
    refine XR_a (op_not rfl) rfl rfl ?_
    refine XR_nil ?_
    refine X_then rfl ?_
    refine X_seq ?_
    refine X_reg ?_
    refine XR_a (op_assign rfl) rfl rfl ?_
    refine XR_a (op_assign rfl) rfl rfl ?_
    refine XR_a (op_assign rfl) rfl rfl ?_
    refine XR_nil ?_
    refine X_ret (.cons (.tmp rfl) (.cons (.tmp rfl) (.cons (.tmp rfl) .nil))) ?_
    have he2 : e = 2 := by rw [hH, if_pos (by omega)]
    rw [he2]
    exact ⟨_, _, a, rfl, ha, fun hh => absurd hh (by omega), fun _ => st1⟩

/-- What one part is: its number, how many, why there is none, and where it ends. -/
noncomputable def oneR (ls : List Nat) (bs : List Bool) (a : Nat) : Nat × Nat × Nat × Nat :=
  if (takeC ls (bs.drop a)).2.2 ≠ 0 then (0, 0, (takeC ls (bs.drop a)).2.2, a + (takeC ls (bs.drop a)).2.1) else if bs.length < a + (takeC ls (bs.drop a)).2.1 + rW (takeC ls (bs.drop a)).1 then (0, 0, 2, a + (takeC ls (bs.drop a)).2.1) else
    ((takeC ls (bs.drop a)).1, rL (takeC ls (bs.drop a)).1 + numB bs (a + (takeC ls (bs.drop a)).2.1) (rW (takeC ls (bs.drop a)).1), 0, a + (takeC ls (bs.drop a)).2.1 + rW (takeC ls (bs.drop a)).1)

theorem one_spec {B p q m c a : Nat} {A : Option Addr} {l : List UInt8} {ls : List Nat} {F : List Res} {h0 : Heap} (st0 : St B h0 h0 (rdG q A m c a :: codeR p ls :: F)) (hok : lensOK ls) (hrB : ∀ h', Low B h0 h' → Rd h' A (l.map byteV)) (hl : l.length = m) (hm : m ≤ 1073741824) (ha : a ≤ 8 * m) :
    Ret Try.prog 78 [.pointer (some ⟨q, 0, none⟩), .pointer (some ⟨p, 0, none⟩)] h0
      fun v h' => v = retVal [.agg #[nV (oneR ls (bitsB l) a).1, nV (oneR ls (bitsB l) a).2.1], nV (oneR ls (bitsB l) a).2.2.1] ∧ (oneR ls (bitsB l) a).2.2.2 ≤ 8 * m ∧ St B h0 h' (rdG q A m c (oneR ls (bitsB l) a).2.2.2 :: codeR p ls :: F) := by
  have hbl : (bitsB l).length = 8 * m := by rw [bitsB_length, hl]
  have hle := takeC_le ls ((bitsB l).drop a)
  rw [List.length_drop, hbl] at hle
  have hO : oneR ls (bitsB l) a = if (takeC ls ((bitsB l).drop a)).2.2 ≠ 0 then (0, 0, (takeC ls ((bitsB l).drop a)).2.2, a + (takeC ls ((bitsB l).drop a)).2.1) else if (bitsB l).length < a + (takeC ls ((bitsB l).drop a)).2.1 + rW (takeC ls ((bitsB l).drop a)).1 then (0, 0, 2, a + (takeC ls ((bitsB l).drop a)).2.1) else
    ((takeC ls ((bitsB l).drop a)).1, rL (takeC ls ((bitsB l).drop a)).1 + numB (bitsB l) (a + (takeC ls ((bitsB l).drop a)).2.1) (rW (takeC ls ((bitsB l).drop a)).1), 0, a + (takeC ls ((bitsB l).drop a)).2.1 + rW (takeC ls ((bitsB l).drop a)).1) := rfl
  have hct := fun {B F h0} (st : St B h0 h0 (rdG q A m c a :: codeR p ls :: F)) hr => ctake_spec (l := l) st hok hr hl (by omega) ha
  obtain ⟨O, hOe⟩ : ∃ O, oneR ls (bitsB l) a = O := ⟨_, rfl⟩
  rw [hOe] at hO ⊢
  obtain ⟨⟨s, k, e⟩, hT⟩ : ∃ T, takeC ls ((bitsB l).drop a) = T := ⟨_, rfl⟩
  simp only [hT] at hO hle hct
  have hw7 := rW_le s
  have hnw := numB_lt (bitsB l) (a + k) (rW s)
  have hp7 : 2 ^ rW s ≤ 128 := Nat.le_trans (Nat.pow_le_pow_right (n := 2) (by omega) hw7) (by decide)
  have hrp : rL s ≤ 138 := by unfold rL; split <;> (try split) <;> (try split) <;> omega
  refine ret_of_X Try.func78 rfl rfl fun w0 hw0 => ?_
  simp only [argE, Nat.zero_add, Nat.reduceAdd]
  refine X_seq ?_
  refine X_reg ?_
  refine XR_wa (opl_new rfl) rfl rfl rfl ?_
  rintro _ hp ⟨p4, rfl, hnew⟩
  have st := st0.new hnew
  replace st := st.re3
  refine XR_a (op_assign rfl) rfl rfl ?_
  by_cases he : e = 0
  · refine XR_nil ?_
    refine X_seq ?_
    refine X_reg ?_
    refine XR_a (op_move rfl) rfl rfl ?_
    refine XR_a (op_move rfl) rfl rfl ?_
    refine XR_wa (opl_call (hct st.here (hrB _ st.low)) rfl (by kernel_rfl)) rfl rfl rfl ?_
    rintro _ hp2 ⟨rfl, st2⟩
    replace st := st.trans st2
    refine XR_a (op_move rfl) rfl rfl ?_
    refine XR_a (op_extract rfl rfl) rfl rfl ?_
    refine XR_a (op_extract rfl rfl) rfl rfl ?_
    refine XR_a (op_assign rfl) rfl rfl ?_
    refine XR_a (op_assign rfl) rfl rfl ?_
    refine XR_nil ?_
    refine X_seq ?_
    refine X_seq ?_
    refine X_reg ?_
    refine XR_a (op_move rfl) rfl rfl ?_
    refine XR_a (op_neq rfl rfl) rfl rfl ?_
    refine XR_as (.bool false) (congrArg Value.bool (decide_eq_false (by omega))) ?_
    refine XR_nil ?_
    refine X_else rfl ?_
    refine X_skip ?_
    refine X_seq ?_
    refine X_reg ?_
    refine XR_a (op_move rfl) rfl rfl ?_
    refine XR_wa (opl_call (bounds_spec s _) rfl (by kernel_rfl)) rfl rfl rfl ?_
    rintro _ _ ⟨rfl, rfl⟩
    refine XR_a (op_move rfl) rfl rfl ?_
    refine XR_a (op_extract rfl rfl) rfl rfl ?_
    refine XR_a (op_extract rfl rfl) rfl rfl ?_
    refine XR_a (op_extract rfl rfl) rfl rfl ?_
    refine XR_a (op_assign rfl) rfl rfl ?_
    refine XR_a (op_assign rfl) rfl rfl ?_
    refine XR_a (op_assign rfl) rfl rfl ?_
    by_cases hw : rW s ≤ 8 * m - (a + k)
    · refine XR_nil ?_
      refine X_seq ?_
      refine X_reg ?_
      refine XR_a (op_move rfl) rfl rfl ?_
      refine XR_a (op_move rfl) rfl rfl ?_
      refine XR_wa (opl_call (rtake_spec (k := ((rW s : Nat) : Int)) st.here (hrB _ st.low) hl (by omega) (by omega)) rfl (by kernel_rfl)) rfl rfl rfl ?_
      rintro _ hp3 ⟨rfl, st3⟩
      rw [wd_nat (by omega), if_pos hw] at st3
      rw [wd_nat (by omega), if_pos hw, decide_eq_true hw]
      replace st := st.trans st3
      refine XR_a (op_move rfl) rfl rfl ?_
      refine XR_a (op_extract rfl rfl) rfl rfl ?_
      refine XR_a (op_extract rfl rfl) rfl rfl ?_
      refine XR_a (op_assign rfl) rfl rfl ?_
      refine XR_a (op_assign rfl) rfl rfl ?_
      refine XR_nil ?_
      refine X_seq ?_
      refine X_seq ?_
      refine X_reg ?_
      refine XR_a (op_move rfl) rfl rfl ?_
      refine XR_a (op_not rfl) rfl rfl ?_
      refine XR_nil ?_
      refine X_else rfl ?_
      refine X_skip ?_
      refine X_seq ?_
      refine X_reg ?_
      refine XR_a (op_move rfl) rfl rfl ?_
      refine XR_a (op_move rfl) rfl rfl ?_
      refine XR_a (op_move rfl) rfl rfl ?_
      refine XR_a (op_convI (k' := .i64) rfl rfl (by simp only [inK]; omega)) rfl rfl ?_
      first | refine XR_a (op_addN rfl rfl (by simp only [inK]; omega)) rfl rfl ?_ | refine XR_a (op_addI rfl rfl (by simp only [inK]; omega)) rfl rfl ?_ | refine XR_a (op_add rfl rfl) rfl rfl ?_
      refine XR_a (op_build (ps := [(0, nV s), (1, nV (rL s + numB (bitsB l) (a + k) (rW s)))]) (cs := #[nV s, nV (rL s + numB (bitsB l) (a + k) (rW s))]) rfl rfl) rfl rfl ?_
      refine XR_wn (opl_store_whole (us := [nV s, nV (rL s + numB (bitsB l) (a + k) (rW s))]) st 2 rfl rfl rfl rfl rfl (one_nV [s, _]) rfl) rfl rfl fun _ hp st => ?_
      simp only [List.set_cons_zero, List.set_cons_succ] at st
      refine XR_a (op_assign rfl) rfl rfl ?_
      refine XR_nil ?_
      refine X_ret (.cons (RV_agg (vs := [nV s, nV (rL s + numB (bitsB l) (a + k) (rW s))]) rfl rfl rfl (st.cells 2 rfl)) (.cons (.tmp rfl) .nil)) ?_
      rw [if_neg (by omega), if_neg (by omega)] at hO
      rw [hO]
      exact ⟨rfl, by simp only; omega, st.re3'⟩
    · refine XR_nil ?_
      refine X_seq ?_
      refine X_reg ?_
      refine XR_a (op_move rfl) rfl rfl ?_
      refine XR_a (op_move rfl) rfl rfl ?_
      refine XR_wa (opl_call (rtake_spec (k := ((rW s : Nat) : Int)) st.here (hrB _ st.low) hl (by omega) (by omega)) rfl (by kernel_rfl)) rfl rfl rfl ?_
      rintro _ hp3 ⟨rfl, st3⟩
      rw [wd_nat (by omega), if_neg hw] at st3
      rw [wd_nat (by omega), if_neg hw, decide_eq_false hw]
      replace st := st.trans st3
      refine XR_a (op_move rfl) rfl rfl ?_
      refine XR_a (op_extract rfl rfl) rfl rfl ?_
      refine XR_a (op_extract rfl rfl) rfl rfl ?_
      refine XR_a (op_assign rfl) rfl rfl ?_
      refine XR_a (op_assign rfl) rfl rfl ?_
      refine XR_nil ?_
      refine X_seq ?_
      refine X_seq ?_
      refine X_reg ?_
      refine XR_a (op_move rfl) rfl rfl ?_
      refine XR_a (op_not rfl) rfl rfl ?_
      refine XR_nil ?_
      refine X_then rfl ?_
      refine X_seq ?_
      refine X_reg ?_
      refine XR_a (op_build (ps := []) (cs := #[nV 0, nV 0]) rfl rfl) rfl rfl ?_
      refine XR_wn (opl_store_whole (us := [nV 0, nV 0]) st 2 rfl rfl rfl rfl rfl (one_nV [0, 0]) rfl) rfl rfl fun _ hp st => ?_
      simp only [List.set_cons_zero, List.set_cons_succ] at st
      refine XR_a (op_assign rfl) rfl rfl ?_
      refine XR_nil ?_
      refine X_ret (.cons (RV_agg (vs := [nV 0, nV 0]) rfl rfl rfl (st.cells 2 rfl)) (.cons (.tmp rfl) .nil)) ?_
      rw [if_neg (by omega), if_pos (by omega)] at hO
      rw [hO]
      exact ⟨rfl, by simp only; omega, st.re3'⟩
  · refine XR_nil ?_
    refine X_seq ?_
    refine X_reg ?_
    refine XR_a (op_move rfl) rfl rfl ?_
    refine XR_a (op_move rfl) rfl rfl ?_
    refine XR_wa (opl_call (hct st.here (hrB _ st.low)) rfl (by kernel_rfl)) rfl rfl rfl ?_
    rintro _ hp2 ⟨rfl, st2⟩
    replace st := st.trans st2
    refine XR_a (op_move rfl) rfl rfl ?_
    refine XR_a (op_extract rfl rfl) rfl rfl ?_
    refine XR_a (op_extract rfl rfl) rfl rfl ?_
    refine XR_a (op_assign rfl) rfl rfl ?_
    refine XR_a (op_assign rfl) rfl rfl ?_
    refine XR_nil ?_
    refine X_seq ?_
    refine X_seq ?_
    refine X_reg ?_
    refine XR_a (op_move rfl) rfl rfl ?_
    refine XR_a (op_neq rfl rfl) rfl rfl ?_
    refine XR_as (.bool true) (congrArg Value.bool (decide_eq_true (by omega))) ?_
    refine XR_nil ?_
    refine X_then rfl ?_
    refine X_seq ?_
    refine X_reg ?_
    refine XR_a (op_build (ps := []) (cs := #[nV 0, nV 0]) rfl rfl) rfl rfl ?_
    refine XR_a (op_move rfl) rfl rfl ?_
    refine XR_wn (opl_store_whole (us := [nV 0, nV 0]) st 2 rfl rfl rfl rfl rfl (one_nV [0, 0]) rfl) rfl rfl fun _ hp st => ?_
    simp only [List.set_cons_zero, List.set_cons_succ] at st
    refine XR_a (op_assign rfl) rfl rfl ?_
    refine XR_nil ?_
    refine X_ret (.cons (RV_agg (vs := [nV 0, nV 0]) rfl rfl rfl (st.cells 2 rfl)) (.cons (.tmp rfl) .nil)) ?_
    rw [if_pos he] at hO
    rw [hO]
    exact ⟨rfl, by simp only; omega, st.re3'⟩
end Go.Bn
