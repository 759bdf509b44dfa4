/- Packed texts of a claim: what its theorem uses, joined. -/
import Derived.Test.YtedkglaoablgaaaPkBlockWeights9
import Derived.Test.YtedkglaoablgaaaPkBlockWeights13
section
set_option linter.unusedVariables false
set_option linter.unusedSimpArgs false
set_option maxHeartbeats 4000000
set_option maxRecDepth 20000
namespace Go.Bn
open Go Proofs
theorem lenAt_cast (ls : List Nat) (x : Nat) : lenAt ls (x : Int) = ls.getD x 0 := by unfold lenAt; rw [if_neg (by omega), Int.toNat_natCast]
def putE (li : List Int) : Nat := if li.length < 1 ∨ 320 < li.length then 5 else if ∀ x ∈ li, 0 ≤ x ∧ x ≤ 15 then 0 else 1
noncomputable def putL (li : List Int) : List Bool := if putE li = 0 then putR (li.map Int.toNat) else []
theorem rput_spec {B p n c : Nat} {A : Option Addr} {li : List Int} {bs : List Bool} {F : List Res} {h0 : Heap} (st0 : St B h0 h0 (wrR p bs :: F)) (hrB : ∀ h' rs, St B h0 h' (rs ++ F) → Rd h' A (li.map iV)) (hl : li.length = n) (hn : n ≤ 17592186044416) (hbs : bs.length ≤ 1048576) :
    Ret Try.prog 97 [.pointer (some ⟨p, 0, none⟩), .slice A n c] h0 fun v h' => v = nV (putE li) ∧ St B h0 h' (wrR p (bs ++ putL li) :: F) := by
  refine ret_of_X Try.func97 rfl rfl fun w0 hw0 => ?_
  simp only [argE, Nat.zero_add, Nat.reduceAdd]
  refine X_seq ?_
  refine X_reg ?_
  refine XR_wa (opl_bx (cs := [.pointer (some ⟨p, 0, none⟩)]) rfl rfl) rfl rfl rfl ?_
  rintro _ hp ⟨p2, rfl, hnew⟩
  have st := st0.new hnew
  refine XR_a (op_assign rfl) rfl rfl ?_
  refine XR_nil ?_
  refine X_seq ?_
  refine X_block ?_
  refine X_seq ?_
  refine X_reg ?_
  refine XR_a (op_move rfl) rfl rfl ?_
  refine XR_a (op_len rfl rfl rfl) rfl rfl ?_
  refine XR_a (op_lss rfl rfl) rfl rfl ?_
  refine XR_a (op_move rfl) rfl rfl ?_
  refine XR_if 21 rfl (fun h => ?_) (fun h => ?_)
  · have h21 := h
    refine XR_no rfl rfl ?_
    refine XR_no rfl rfl ?_
    refine XR_no rfl rfl ?_
    refine XR_a (op_pick_t rfl rfl) rfl rfl ?_
    refine XR_a (op_assign rfl) rfl rfl ?_
    refine XR_nil ?_
    refine X_then rfl ?_
    refine X_seq ?_
    refine X_reg ?_
    refine XR_a (op_assign rfl) rfl rfl ?_
    refine XR_nil ?_
    refine X_ret (.cons (.tmp rfl) .nil) ?_
    have he : putE li = 5 := by unfold putE; rw [if_pos (by omega)]
    unfold putL
    rw [he, if_neg (by omega), List.append_nil]
    exact ⟨rfl, st.tail⟩
  · have h21 := h
    refine XR_a (op_move rfl) rfl rfl ?_
    refine XR_a (op_len rfl rfl rfl) rfl rfl ?_
    refine XR_a (op_gtr rfl rfl) rfl rfl ?_
    refine XR_a (op_pick_f rfl rfl) rfl rfl ?_
    refine XR_a (op_assign rfl) rfl rfl ?_
    refine XR_nil ?_
    refine X_if rfl (fun h => ?_) (fun h => ?_)
    · refine X_seq ?_
      refine X_reg ?_
      refine XR_a (op_assign rfl) rfl rfl ?_
      refine XR_nil ?_
      refine X_ret (.cons (.tmp rfl) .nil) ?_
      have he : putE li = 5 := by unfold putE; rw [if_pos (by omega)]
      unfold putL
      rw [he, if_neg (by omega), List.append_nil]
      exact ⟨rfl, st.tail⟩
    · refine X_seq ?_
      refine X_reg ?_
      refine XR_a (op_ld (st.cell 0 (i := 0) rfl rfl) rfl rfl rfl) rfl rfl ?_
      refine XR_a (op_ptr_nil rfl rfl rfl) rfl rfl ?_
      refine XR_a (op_move rfl) rfl rfl ?_
      refine XR_a (op_move rfl) rfl rfl ?_
      refine XR_wa (opl_call (rright_spec (hrB _ [_, _] st) hl hn) rfl (by kernel_rfl)) rfl rfl rfl ?_
      rintro _ _ ⟨rfl, rfl⟩
      first | refine XR_a (op_notd rfl) rfl rfl ?_ | refine XR_a (op_not rfl) rfl rfl ?_
      refine XR_a (op_pick_f rfl rfl) rfl rfl ?_
      refine XR_a (op_assign rfl) rfl rfl ?_
      refine XR_nil ?_
      refine X_if rfl (fun h => ?_) (fun h => ?_)
      · refine X_seq ?_
        refine X_reg ?_
        refine XR_a (op_assign rfl) rfl rfl ?_
        refine XR_nil ?_
        refine X_ret (.cons (.tmp rfl) .nil) ?_
        have he : putE li = 1 := by unfold putE; rw [if_neg (by omega), if_neg h]
        unfold putL
        rw [he, if_neg (by omega), List.append_nil]
        exact ⟨rfl, st.tail⟩
      · have hb := Decidable.not_not.1 h
        have he : putE li = 0 := by unfold putE; rw [if_neg (by omega), if_pos hb]
        have hpl : putL li = putR (li.map Int.toNat) := by unfold putL; rw [if_pos he]
        have hb2 : ∀ x ∈ li.map Int.toNat, x ≤ 15 := fun x hx => by obtain ⟨y, hy, rfl⟩ := List.mem_map.1 hx; have := hb y hy; omega
        have hrN : ∀ h' rs, St B h0 h' (rs ++ F) → Rd h' A ((li.map Int.toNat).map nV) := fun h' rs hs => by rw [nV_iV, toNat_map fun x hx => (hb x hx).1]; exact hrB h' rs hs
        have hlN : (li.map Int.toNat).length = n := by rw [List.length_map]; exact hl
        rw [he, hpl]
        obtain ⟨ls, hls⟩ : ∃ ls, li.map Int.toNat = ls := ⟨_, rfl⟩
        rw [hls] at hb2 hrN hlN
        rw [hls]
        have hpm := partsL_mem hb2
        have hplen := partsL_len ls
        have hok := plens_ok hb2 (by omega)
        have h19 := plens_len ls
        refine X_skip ?_
        refine X_blk ?_
        refine X_seq ?_
        refine X_reg ?_
        refine XR_wa (opl_mk (n := 19) (by omega) rfl rfl rfl) rfl rfl rfl ?_
        rintro v hp hnew
        replace st := st.new hnew
        obtain ⟨go, no, co, rfl, hno, _⟩ := st.row0 0 rfl (by rw [List.length_replicate]; omega)
        obtain rfl : no = 19 := by simpa using hno.symm
        rw [show List.replicate 19 (Value.int .i64 0) = (pcnt []).map nV by rw [pcnt_nil, List.map_replicate]; rfl] at st
        refine XR_wa (opl_new rfl) rfl rfl rfl ?_
        rintro _ hp ⟨p5, rfl, hnew⟩
        replace st := st.new hnew
        refine XR_wn (opl_store_pt st 0 rfl rfl rfl rfl rfl (rfl)) rfl rfl fun _ hp st => ?_
        simp only [List.set_cons_zero, List.set_cons_succ] at st
        refine XR_nil ?_
        refine X_seq ?_
        refine X_seq ?_
        refine X_reg ?_
        refine XR_a (op_move rfl) rfl rfl ?_
        refine XR_wa (opl_call (rparts_spec) rfl (by kernel_rfl)) rfl rfl rfl ?_
        rintro _ hp3 ⟨pp, rfl, st3⟩
        replace st := st.join st3
        simp only [List.cons_append, List.nil_append] at st
        refine XR_nil ?_
        refine X_block ?_
        refine X_rangeS st rfl rfl (by kernel_rfl) fun fn tmps L1 y1 d1 hp1 hL1 hok1 hx1 st1 => ?_
        obtain ⟨JR, hJR⟩ : ∃ JR : List (Nat × Nat) → List Res, JR = fun s => [obj y1 (L1 .ready none), pt p5 25 [.slice (some ⟨go, 0, none⟩) 19 co], Bn.row 3 1 (.slice (some ⟨go, 0, none⟩) 19 co) ((pcnt s).map nV)] := ⟨_, rfl⟩
        have st2 := St.reF [_, _, _, _, _] 5 st1 [2, 0, 3, 4, 1] (by decide)
        simp only [List.map_cons, List.map_nil, getR, List.cons_append, List.nil_append] at st2
        have st11 : St B h0 hp1 (pt pp 25 [.slice A n c] :: (JR [] ++ (obj d1 (.deferred (some [])) :: pt p2 71 [.pointer (some ⟨p, 0, none⟩)] :: wrR p bs :: F))) := by rw [hJR]; exact st2
        refine Ret.mono (parts_iter JR st11.here (fun h' rs hs => hrN h' (rs ++ [_, _, _]) (by rw [List.append_assoc]; exact st11.trans hs)) hlN (by omega) ?_) ?_
        · intro s x r F' h hlow hsP st2
          subst hL1
          subst hJR
          simp only [List.cons_append, List.nil_append] at st2
          have hx19 := (hpm x (by rw [← hsP]; simp)).1
          have hsl : s.length < (partsL ls 0).length := by rw [← hsP]; simp
          have hcl := pcnt_le s
          have hog := pcnt_get (s := s) hx19
          have hcx : (s.map (·.1)).count x.1 ≤ s.length := hcl _ (List.mem_of_getElem? hog)
          refine rret_of_X (st2.obj_at 0 rfl) hok1 rfl rfl fun w0 hw0 => ?_
          simp only [penv]
          refine X_reg ?_
          refine XR_wa (opl_new rfl) rfl rfl rfl ?_
          rintro _ hp ⟨p6, rfl, hnew⟩
          have st := st2.new hnew
          refine XR_wn (opl_store_whole (us := pC2 x) st 0 rfl rfl rfl rfl rfl (one_pC2 x) rfl) rfl rfl fun _ hp st => ?_
          simp only [List.set_cons_zero] at st
          refine XR_nil ?_
          refine X_begin (st.obj_at 1 rfl) ?_
          replace st := st.loop 1 .busy none rfl
          simp only [List.set_cons_zero, List.set_cons_succ] at st
          obtain ⟨_, _, he8, hc8⟩ := (st.rdS 3 rfl).2.at_ (by rw [List.length_map, pcnt_len]; omega)
          cases he8
          have hov := hc8 _ _ (map_get_nV hog)
          refine X_block ?_
          refine X_reg ?_
          refine XR_a (op_ld (st.cell 2 (i := 0) rfl rfl) rfl rfl rfl) rfl rfl ?_
          first | refine XR_a (op_field0 rfl rfl) rfl rfl ?_ | refine XR_a (op_fieldn rfl rfl) rfl rfl ?_
          refine XR_a (op_ld (st.cell 0 (i := 0) rfl rfl) rfl rfl rfl) rfl rfl ?_
          first | refine XR_a (op_index1 rfl rfl rfl (by omega)) rfl rfl ?_ | refine XR_a (op_index rfl rfl rfl (by omega)) rfl rfl ?_
          refine XR_a (op_ld (hov) rfl rfl rfl) rfl rfl ?_
          first | refine XR_a (op_addN (n := 1) rfl rfl (by simp only [inK]; omega)) rfl rfl ?_ | refine XR_a (op_addI rfl rfl (by simp only [inK]; omega)) rfl rfl ?_ | refine XR_a (op_add rfl rfl) rfl rfl ?_
          first | refine XR_a (op_index1 rfl rfl rfl (by omega)) rfl rfl ?_ | refine XR_a (op_index rfl rfl rfl (by omega)) rfl rfl ?_
          refine XR_wn (opl_store_row (v := nV ((s.map (·.1)).count x.1 + 1)) st 3 rfl rfl rfl (by rw [List.length_map, pcnt_len]; exact hx19) rfl rfl) rfl rfl fun _ hp st => ?_
          simp only [List.set_cons_zero, List.set_cons_succ] at st
          rw [map_set_nV, pcnt_set] at st
          refine XR_nil ?_
          refine X_blk ?_
          refine X_rnd (st.obj_at 1 rfl) ⟨rfl, ?_⟩
          replace st := st.loop 1 .ready none rfl
          simp only [List.set_cons_zero, List.set_cons_succ] at st
          exact st.tail
        rintro _ h' st3
        subst hJR
        simp only [List.cons_append, List.nil_append] at st3
        refine .inl ⟨_, st11.trans st3, fun hp3 st4 => ?_⟩
        have st := st4
        have hrdP := (st.rdS 2 rfl).2
        rw [nV_iV] at hrdP
        have hbW : boundedB 1073741824 ((pcnt (partsL ls 0)).map fun n : Nat => (n : Int)) := by
          refine ⟨by rw [List.length_map, pcnt_len]; omega, fun x hx => ?_⟩
          obtain ⟨y, hy, rfl⟩ := List.mem_map.1 hx
          have := pcnt_le _ y hy; omega
        have hlI : lensI ((pcnt (partsL ls 0)).map fun n : Nat => (n : Int)) = plens ls := by
          unfold lensI
          rw [if_pos (errW_zero.2 hbW), cast_toNat]; rfl
        have hRC : rightC ((plens ls).map fun n : Nat => (n : Int)) := by
          refine ⟨by rw [List.length_map, h19]; omega, ⟨by rw [List.length_map, h19]; omega, fun x hx => ?_⟩, by rw [cast_toNat]; exact hok.2.2.2⟩
          obtain ⟨y, hy, rfl⟩ := List.mem_map.1 hx
          have := hok.2.2.1 y hy; omega
        refine X_blk ?_
        refine X_seq ?_
        refine X_reg ?_
        refine XR_a (op_ld (st.cell 1 (i := 0) rfl rfl) rfl rfl rfl) rfl rfl ?_
        refine XR_wa (opl_call (lengths_spec hrdP (by rw [List.length_map, pcnt_len]) (by omega)) rfl (by kernel_rfl)) rfl rfl rfl ?_
        rintro _ hp5 ⟨v7, rfl, st5⟩
        rw [hlI] at st5
        obtain ⟨A7, n7, c7, rfl, hl7, _, _, hrd7⟩ := st5.row 0 rfl
        rw [List.length_map, h19, Nat.mul_one] at hl7
        obtain rfl : n7 = 19 := by omega
        replace st := st.join st5
        simp only [List.cons_append, List.nil_append] at st
        have hrd7I := hrd7
        rw [nV_iV] at hrd7I
        refine XR_a (op_move rfl) rfl rfl ?_
        refine XR_a (op_extract rfl rfl) rfl rfl ?_
        refine XR_a (op_extract rfl rfl) rfl rfl ?_
        refine XR_a (op_assign rfl) rfl rfl ?_
        refine XR_a (op_assign rfl) rfl rfl ?_
        refine XR_nil ?_
        refine X_seq ?_
        refine X_reg ?_
        refine XR_a (op_move rfl) rfl rfl ?_
        refine XR_wa (opl_call (cnew_spec hrd7I (by rw [List.length_map, h19]) (by omega)) rfl (by kernel_rfl)) rfl rfl rfl ?_
        rintro _ hp6 ⟨w, rfl, hx6, hy6, _⟩
        obtain ⟨pc, rfl, sc⟩ := hy6 hRC
        rw [cast_toNat] at sc
        replace st := st.join sc
        simp only [List.cons_append, List.nil_append] at st
        refine XR_a (op_move rfl) rfl rfl ?_
        refine XR_a (op_extract rfl rfl) rfl rfl ?_
        refine XR_a (op_extract rfl rfl) rfl rfl ?_
        refine XR_wa (opl_new rfl) rfl rfl rfl ?_
        rintro _ hp ⟨p9, rfl, hnew⟩
        replace st := st.new hnew
        refine XR_wn (opl_store_pt st 0 rfl rfl rfl rfl rfl (rfl)) rfl rfl fun _ hp st => ?_
        simp only [List.set_cons_zero, List.set_cons_succ] at st
        refine XR_a (op_assign rfl) rfl rfl ?_
        refine XR_nil ?_
        refine X_seq ?_
        replace st := St.reF [_, _, _, _, _, _, _, _, _] 9 st [3, 4, 5, 8, 1, 7, 0, 2, 6] (by decide)
        simp only [List.map_cons, List.map_nil, getR, List.cons_append, List.nil_append] at st
        replace st := st.tail.tail.tail
        refine X_reg ?_
        refine XR_a (op_ld (st.cell 2 (i := 0) rfl rfl) rfl rfl rfl) rfl rfl ?_
        refine XR_a (op_move rfl) rfl rfl ?_
        refine XR_a (op_len rfl rfl rfl) rfl rfl ?_
        refine XR_a (op_convI (k' := .u32) rfl rfl (by simp only [inK]; omega)) rfl rfl ?_
        refine XR_wa (opl_call (put_spec (n := n) (k := 9) st.here (by omega) (by omega)) rfl (by kernel_rfl)) rfl rfl rfl ?_
        rintro _ hp7 ⟨rfl, st7⟩
        rw [show wd 32 9 = 9 from rfl] at st7
        replace st := st.trans st7
        refine XR_nil ?_
        refine X_seq ?_
        refine X_seq ?_
        refine X_reg ?_
        refine XR_a (op_move rfl) rfl rfl ?_
        refine XR_a (op_len rfl rfl rfl) rfl rfl ?_
        refine XR_a (op_move rfl) rfl rfl ?_
        refine XR_nil ?_
        refine X_block ?_
        have hh0 : bs ++ bitsN 9 n = bs ++ putHead ls 0 := by unfold putHead; rw [hlN]; simp
        rw [hh0] at st
        refine X_loop (fun i => 19 - i) (fun i => [(1, .slice A n c), (2, .pointer (some ⟨p2, 0, none⟩)), (9, .pointer (some ⟨p9, 0, none⟩)), (60, .slice A7 19 c7), (61, nV 19), (62, nV i)])
          (fun (i : Nat) hp => i ≤ 19 ∧ St B h0 hp (wrR p (bs ++ putHead ls i) :: codeR pc (plens ls) :: pt p2 71 [.pointer (some ⟨p, 0, none⟩)] :: pt p9 118 [.pointer (some ⟨pc, 0, none⟩)] :: Bn.row 3 1 (.slice A7 19 c7) ((plens ls).map nV) :: obj d1 (.deferred (some [])) :: F))
          0 (.cons rfl (.cons rfl (.cons rfl (.cons rfl (.cons rfl (.cons rfl (.nil _))))))) ⟨Nat.zero_le _, st⟩ ?_
        clear st st7
        rintro i hp8 ⟨hi, st⟩
        refine X_seq ?_
        refine X_reg ?_
        refine XR_a (op_lss rfl rfl) rfl rfl ?_
        refine XR_nil ?_
        refine X_seq ?_
        refine X_if rfl (fun h => ?_) (fun h => ?_)
        · obtain ⟨g7, o7, rfl, hc7⟩ := (st.rdS 4 rfl).2.at_ (by rw [List.length_map]; omega)
          have hli := hc7 i (nV ((plens ls).getD i 0)) (by rw [List.getElem?_map, List.getElem?_eq_getElem (by omega), getD_eq (by omega)]; rfl)
          have hl15 : (plens ls).getD i 0 ≤ 15 := by rw [getD_eq (by omega)]; exact hok.2.2.1 _ (List.getElem_mem _)
          have hhl := putHead_len ls i
          refine X_skip ?_
          refine X_seq ?_
          refine X_block ?_
          refine X_seq ?_
          refine X_reg ?_
          first | refine XR_a (op_index1 rfl rfl rfl (by omega)) rfl rfl ?_ | refine XR_a (op_index rfl rfl rfl (by omega)) rfl rfl ?_
          refine XR_a (op_ld (hli) rfl rfl rfl) rfl rfl ?_
          refine XR_a (op_assign rfl) rfl rfl ?_
          refine XR_nil ?_
          refine X_reg ?_
          refine XR_a (op_ld (st.cell 2 (i := 0) rfl rfl) rfl rfl rfl) rfl rfl ?_
          refine XR_a (op_move rfl) rfl rfl ?_
          refine XR_a (op_convI (k' := .u32) rfl rfl (by simp only [inK]; omega)) rfl rfl ?_
          refine XR_wa (opl_call (put_spec (n := (plens ls).getD i 0) (k := 4) st.here (by omega) (by rw [List.length_append]; omega)) rfl (by kernel_rfl)) rfl rfl rfl ?_
          rintro _ hp9 ⟨rfl, st9⟩
          rw [show wd 32 4 = 4 from rfl, List.append_assoc, ← putHead_succ (by omega)] at st9
          replace st := st.trans st9
          refine XR_nil ?_
          refine X_blk ?_
          refine X_reg ?_
          first | refine XR_a (op_addN (n := 1) rfl rfl (by simp only [inK]; omega)) rfl rfl ?_ | refine XR_a (op_addI rfl rfl (by simp only [inK]; omega)) rfl rfl ?_ | refine XR_a (op_add rfl rfl) rfl rfl ?_
          refine XR_a (op_move rfl) rfl rfl ?_
          refine XR_nil ?_
          exact X_again (i + 1) (.cons rfl (.cons rfl (.cons rfl (.cons rfl (.cons rfl (.cons rfl (.nil _))))))) ⟨by omega, st⟩ (by omega)
        · refine X_exit rfl ?_
          refine X_seq ?_
          refine X_seq ?_
          obtain rfl : i = 19 := by omega
          have hhl := putHead_len ls 19
          refine X_reg ?_
          refine XR_a (op_move rfl) rfl rfl ?_
          refine XR_wa (opl_call (rparts_spec) rfl (by kernel_rfl)) rfl rfl rfl ?_
          rintro _ hp10 ⟨pp2, rfl, st10⟩
          replace st := st.join st10
          simp only [List.cons_append, List.nil_append] at st
          refine XR_nil ?_
          refine X_block ?_
          refine X_rangeS st rfl rfl (by kernel_rfl) fun fn2 tmps2 L2 y2 d2 hp2 hL2 hok2 hx2 st1 => ?_
          obtain ⟨JR, hJR⟩ : ∃ JR : List (Nat × Nat) → List Res, JR = fun s => [obj y2 (L2 .ready none), wrR p (bs ++ putHead ls 19 ++ s.flatMap (partBits (plens ls))), codeR pc (plens ls), pt p2 71 [.pointer (some ⟨p, 0, none⟩)], pt p9 118 [.pointer (some ⟨pc, 0, none⟩)]] := ⟨_, rfl⟩
          have st2 := St.reF [_, _, _, _, _, _, _, _, _] 9 st1 [2, 0, 3, 4, 5, 6, 1, 7, 8] (by decide)
          simp only [List.map_cons, List.map_nil, getR, List.cons_append, List.nil_append] at st2
          have st12 : St B h0 hp2 (pt pp2 25 [.slice A n c] :: (JR [] ++ (obj d2 (.deferred (some [])) :: Bn.row 3 1 (.slice A7 19 c7) ((plens ls).map nV) :: obj d1 (.deferred (some [])) :: F))) := by rw [hJR]; simpa using st2
          refine Ret.mono (parts_iter JR st12.here (fun h' rs hs => hrN h' (rs ++ [_, _, _]) (by rw [List.append_assoc]; exact st12.trans hs)) hlN (by omega) ?_) ?_
          · intro s x r F' h hlow hsP st2
            subst hL2
            subst hJR
            simp only [List.cons_append, List.nil_append] at st2
            obtain ⟨hx19, hxL, hxH⟩ := hpm x (by rw [← hsP]; simp)
            have hxh := rH_le x.1
            have hsl : s.length < (partsL ls 0).length := by rw [← hsP]; simp
            have hfb := flat_bd (partBits (plens ls)) 22 (partBits_len hok) s
            have hpb := partBits_len hok x
            refine rret_of_X (st2.obj_at 0 rfl) hok2 rfl rfl fun w0 hw0 => ?_
            simp only [penv]
            refine X_reg ?_
            refine XR_wa (opl_new rfl) rfl rfl rfl ?_
            rintro _ hp ⟨p13, rfl, hnew⟩
            have st := st2.new hnew
            refine XR_wn (opl_store_whole (us := pC2 x) st 0 rfl rfl rfl rfl rfl (one_pC2 x) rfl) rfl rfl fun _ hp st => ?_
            simp only [List.set_cons_zero] at st
            refine XR_nil ?_
            refine X_begin (st.obj_at 1 rfl) ?_
            replace st := st.loop 1 .busy none rfl
            simp only [List.set_cons_zero, List.set_cons_succ] at st
            replace st := St.reF [_, _, _, _, _, _] 6 st [2, 3, 0, 1, 4, 5] (by decide)
            simp only [List.map_cons, List.map_nil, getR, List.cons_append, List.nil_append] at st
            refine X_block ?_
            refine X_seq ?_
            refine X_reg ?_
            first | refine XR_a (op_field0 rfl rfl) rfl rfl ?_ | refine XR_a (op_fieldn rfl rfl) rfl rfl ?_
            refine XR_a (op_ld (st.cell 2 (i := 0) rfl rfl) rfl rfl rfl) rfl rfl ?_
            refine XR_wa (opl_call (bounds_spec x.1 _) rfl (by kernel_rfl)) rfl rfl rfl ?_
            rintro _ _ ⟨rfl, rfl⟩
            refine XR_a (op_move rfl) rfl rfl ?_
            refine XR_a (op_extract rfl rfl) rfl rfl ?_
            refine XR_a (op_extract rfl rfl) rfl rfl ?_
            refine XR_a (op_extract rfl rfl) rfl rfl ?_
            refine XR_a (op_assign rfl) rfl rfl ?_
            refine XR_a (op_assign rfl) rfl rfl ?_
            refine XR_a (op_assign rfl) rfl rfl ?_
            refine XR_nil ?_
            refine X_seq ?_
            refine X_reg ?_
            refine XR_a (op_ld (st.cell 5 (i := 0) rfl rfl) rfl rfl rfl) rfl rfl ?_
            refine XR_a (op_ld (st.cell 4 (i := 0) rfl rfl) rfl rfl rfl) rfl rfl ?_
            first | refine XR_a (op_field0 rfl rfl) rfl rfl ?_ | refine XR_a (op_fieldn rfl rfl) rfl rfl ?_
            refine XR_a (op_ld (st.cell 2 (i := 0) rfl rfl) rfl rfl rfl) rfl rfl ?_
            refine XR_wa (opl_call (cput_spec (s := (x.1 : Nat)) st.here hok (by simp only [List.length_append]; omega)) rfl (by kernel_rfl)) rfl rfl rfl ?_
            rintro _ hp14 ⟨rfl, st14⟩
            rw [lenAt_cast, Int.toNat_natCast] at st14
            replace st := st.trans st14
            refine XR_nil ?_
            refine X_reg ?_
            refine XR_a (op_ld (st.cell 4 (i := 0) rfl rfl) rfl rfl rfl) rfl rfl ?_
            first | refine XR_a (op_field0 rfl rfl) rfl rfl ?_ | refine XR_a (op_fieldn rfl rfl) rfl rfl ?_
            refine XR_a (op_ld (st.cell 2 (i := 1) rfl rfl) rfl rfl rfl) rfl rfl ?_
            refine XR_a (op_move rfl) rfl rfl ?_
            refine XR_a (op_subN (m := x.2) (n := rL x.1) rfl rfl hxL (by simp only [inK]; omega)) rfl rfl ?_
            refine XR_a (op_convI (k' := .u32) rfl rfl (by simp only [inK]; omega)) rfl rfl ?_
            refine XR_a (op_move rfl) rfl rfl ?_
            refine XR_wa (opl_call (put_spec (n := x.2 - rL x.1) (k := ((rW x.1 : Nat) : Int)) st.here (by omega) (by simp only [List.length_append, codeBits_length]; have h15 : (plens ls).getD x.1 0 ≤ 15 := by { rw [getD_eq (by omega)]; exact hok.2.2.1 _ (List.getElem_mem _) }; omega)) rfl (by kernel_rfl)) rfl rfl rfl ?_
            rintro _ hp15 ⟨rfl, st15⟩
            rw [wd_nat (by have := rW_le x.1; omega)] at st15
            replace st := st.trans st15
            refine XR_nil ?_
            refine X_blk ?_
            refine X_rnd (st.obj_at 3 rfl) ⟨rfl, ?_⟩
            replace st := st.loop 3 .ready none rfl
            simp only [List.set_cons_zero, List.set_cons_succ] at st
            have e : bs ++ putHead ls 19 ++ s.flatMap (partBits (plens ls)) ++ codeBits (val (plens ls) x.1) ((plens ls).getD x.1 0) ++ bitsN (rW x.1) (x.2 - rL x.1) = bs ++ putHead ls 19 ++ (s ++ [x]).flatMap (partBits (plens ls)) := by
              rw [List.flatMap_append]
              simp [partBits]
            rw [e] at st
            replace st := St.reF [_, _, _, _, _, _] 6 st [2, 3, 0, 1, 4, 5] (by decide)
            simp only [List.map_cons, List.map_nil, getR, List.cons_append, List.nil_append] at st
            exact st.tail
          rintro _ h' st3
          subst hJR
          simp only [List.cons_append, List.nil_append] at st3
          refine .inl ⟨_, st12.trans st3, fun hp3 st4 => ?_⟩
          have st := st4
          refine X_blk ?_
          refine X_seq ?_
          refine X_reg ?_
          refine XR_a (op_assign rfl) rfl rfl ?_
          refine XR_nil ?_
          refine X_retM2 (d := d2) (e := d1) (.cons (.tmp rfl) .nil) ?_ (st.obj_at 5 rfl) ((st.put 5 (.deferred none) rfl).obj_at 7 rfl)
          replace st := (st.put 5 (.deferred none) rfl).put 7 (.deferred none) rfl
          simp only [List.set_cons_zero, List.set_cons_succ] at st
          replace st := St.reF [_, _, _, _, _, _, _, _] 8 st [0, 2, 3, 4, 5, 6, 7, 1] (by decide)
          simp only [List.map_cons, List.map_nil, getR, List.cons_append, List.nil_append] at st
          refine ⟨rfl, ?_⟩
          unfold putR
          rw [← List.append_assoc]
          exact st.tail.tail.tail.tail.tail.tail.tail
end Go.Bn
end

section
set_option linter.unusedVariables false
set_option linter.unusedSimpArgs false
set_option maxHeartbeats 4000000
set_option maxRecDepth 20000
namespace Go.Bn
open Go Proofs
theorem castN_iV (z : List Nat) : z.map nV = (castI z).map iV := by unfold castI; rw [List.map_map]; rfl
theorem castN_len (z : List Nat) : (castI z).length = z.length := by unfold castI; rw [List.length_map]
theorem St.rdM {B : Nat} {h0 hp : Heap} {rs : List Res} (s : St B h0 hp rs) {e sz n c : Nat} {A : Option Addr} {vs : List Value} (h : Bn.row e sz (.slice A n c) vs ∈ rs) : Rd hp A vs := by
  obtain ⟨j, hj, he⟩ := List.getElem_of_mem h
  exact (s.rdS j (by rw [List.getElem?_eq_getElem hj, he])).2
theorem lensI_cast {ws : List Nat} (h2 : ws.length ≤ 320) (hw : ∀ x ∈ ws, x ≤ 1073741824) : lensI (castI ws) = lensW ws := by
  have hb : boundedB 1073741824 (castI ws) := by
    refine ⟨by rw [castN_len]; exact h2, fun x hx => ?_⟩
    obtain ⟨y, hy, rfl⟩ := List.mem_map.1 hx
    have := hw y hy
    omega
  have he : errW (castI ws) = 0 := by
    unfold errW
    rw [castN_len, if_neg (by omega), if_pos hb]
  unfold lensI
  rw [if_pos he, castI_toNat]
theorem putL_cast {ls : List Nat} (h : lensOK ls) : putL (castI ls) = putR ls := by
  have hb : ∀ x ∈ castI ls, 0 ≤ x ∧ x ≤ 15 := by
    intro x hx
    obtain ⟨y, hy, rfl⟩ := List.mem_map.1 hx
    have := h.2.2.1 y hy
    omega
  have he : putE (castI ls) = 0 := by
    unfold putE
    rw [castN_len, if_neg (by have := h.1; have := h.2.1; omega), if_pos hb]
  unfold putL
  rw [if_pos he, castI_toNat]
theorem btable_spec {B p n c : Nat} {A : Option Addr} {ws : List Nat} {bs : List Bool} {F : List Res} {h0 : Heap} (st0 : St B h0 h0 (wrR p bs :: F)) (hrB : ∀ h' rs, St B h0 h' (rs ++ F) → Rd h' A (ws.map nV)) (hl : ws.length = n) (h1 : 1 ≤ n) (h2 : n ≤ 320) (hw : ∀ x ∈ ws, x ≤ 1073741824) (hs : (syms ws).length ≠ 0) (hbs : bs.length ≤ 1048576) :
    Ret Try.prog 67 [.pointer (some ⟨p, 0, none⟩), .slice A n c] h0 fun v h' => ∃ q, v = .pointer (some ⟨q, 0, none⟩) ∧ St B h0 h' (wrR p (bs ++ putR (lensW ws)) :: codeR q (lensW ws) :: F) := by
  have hok := lensW_ok (ws := ws) (by omega) (by omega) hs
  refine ret_of_X Try.func67 rfl rfl fun w0 hw0 => ?_
  simp only [argE, Nat.zero_add, Nat.reduceAdd]
  have st := st0
  refine X_seq ?_
  refine X_reg ?_
  refine XR_a (op_assign rfl) rfl rfl ?_
  refine XR_nil ?_
  refine X_seq ?_
  refine X_reg ?_
  refine XR_a (op_move rfl) rfl rfl ?_
  refine XR_wa (opl_call (lengths_spec (li := castI ws) (by rw [← castN_iV]; exact hrB _ [_] st) (by rw [castN_len]; exact hl) (by omega)) rfl (by kernel_rfl)) rfl rfl rfl ?_
  rintro _ hp1 ⟨v1, rfl, st1⟩
  rw [lensI_cast (by omega) hw] at st1
  replace st := st.join st1
  clear st1
  obtain ⟨A1, n1, c1, rfl, hl1, _, _, hrd1⟩ := st.row 0 rfl
  rw [List.length_map, lensW_length, Nat.mul_one] at hl1
  refine XR_a (op_move rfl) rfl rfl ?_
  refine XR_a (op_extract rfl rfl) rfl rfl ?_
  refine XR_a (op_extract rfl rfl) rfl rfl ?_
  refine XR_a (op_assign rfl) rfl rfl ?_
  refine XR_a (op_assign rfl) rfl rfl ?_
  refine XR_nil ?_
  refine X_seq ?_
  refine X_reg ?_
  refine XR_a (op_move rfl) rfl rfl ?_
  refine XR_wa (opl_call (cnew_spec (li := castI (lensW ws)) (by rw [← castN_iV]; exact hrd1) (by rw [castN_len, lensW_length]; exact hl1) (by omega)) rfl (by kernel_rfl)) rfl rfl rfl ?_
  rintro _ hp2 ⟨w, rfl, hx2, hyes, _⟩
  obtain ⟨q, rfl, stq⟩ := hyes (rightC_cast hok)
  rw [castI_toNat] at stq
  replace st := st.join stq
  clear stq hyes
  replace st := St.reF [_, _, _] 3 st [2, 0, 1] (by decide)
  simp only [List.map_cons, List.map_nil, getR, List.cons_append, List.nil_append] at st
  refine XR_a (op_move rfl) rfl rfl ?_
  refine XR_a (op_extract rfl rfl) rfl rfl ?_
  refine XR_a (op_extract rfl rfl) rfl rfl ?_
  refine XR_a (op_assign rfl) rfl rfl ?_
  refine XR_a (op_assign rfl) rfl rfl ?_
  refine XR_nil ?_
  refine X_seq ?_
  refine X_reg ?_
  refine XR_a (op_move rfl) rfl rfl ?_
  refine XR_a (op_move rfl) rfl rfl ?_
  refine XR_wa (opl_call (rput_spec (li := castI (lensW ws)) st.here (fun h' rs hs => by rw [← castN_iV]; exact hs.rdM (List.mem_append_right _ (List.mem_cons_of_mem _ List.mem_cons_self))) (by rw [castN_len, lensW_length]; exact hl1) (by omega) hbs) rfl (by kernel_rfl)) rfl rfl rfl ?_
  rintro _ hp3 ⟨rfl, st3⟩
  replace st := st.trans st3
  rw [putL_cast hok] at st
  refine XR_nil ?_
  refine X_seq ?_
  refine X_reg ?_
  refine XR_a (op_move rfl) rfl rfl ?_
  refine XR_a (op_assign rfl) rfl rfl ?_
  refine XR_nil ?_
  refine X_ret (.cons (.tmp rfl) .nil) ?_
  exact ⟨q, rfl, (St.reF [_, _, _] 3 st [2, 0, 1] (by decide)).tail⟩
theorem bone_spec {B p q : Nat} {ls : List Nat} {k : Kls} {bs : List Bool} {F : List Res} {h0 : Heap} (st0 : St B h0 h0 (wrR p bs :: codeR q ls :: F)) (hok : lensOK ls) (hk : 0 ≤ k.ext ∧ k.ext < 4294967296) (hbs : bs.length ≤ 1099511626000) :
    Ret Try.prog 68 [.pointer (some ⟨p, 0, none⟩), .pointer (some ⟨q, 0, none⟩), .agg (clsV k).toArray] h0 fun _ h' => St B h0 h' (wrR p (bs ++ symB ls k) :: codeR q ls :: F) := by
  obtain ⟨x, hx⟩ : ∃ x : Nat, k.ext = x := ⟨k.ext.toNat, by omega⟩
  have hl15 := lens_le hok k.num
  refine ret_of_X Try.func68 rfl rfl fun w0 hw0 => ?_
  simp only [argE, Nat.zero_add, Nat.reduceAdd]
  have st := st0
  refine X_seq ?_
  refine X_reg ?_
  refine XR_wa (opl_bx (cs := clsV k) rfl rfl) rfl rfl rfl ?_
  rintro _ hp ⟨p5, rfl, hnew⟩
  replace st := st.new hnew
  refine XR_nil ?_
  refine X_seq ?_
  refine X_reg ?_
  refine XR_a (op_move rfl) rfl rfl ?_
  refine XR_a (op_move rfl) rfl rfl ?_
  first | refine XR_a (op_field0 rfl rfl) rfl rfl ?_ | refine XR_a (op_fieldn rfl rfl) rfl rfl ?_
  refine XR_a (op_ld (st.cell 0 (i := 0) rfl rfl) rfl rfl rfl) rfl rfl ?_
  replace st := St.reF [_, _, _] 3 st [1, 2, 0] (by decide)
  simp only [List.map_cons, List.map_nil, getR, List.cons_append, List.nil_append] at st
  refine XR_wa (opl_call (cput_spec st.here hok (by omega)) rfl (by kernel_rfl)) rfl rfl rfl ?_
  rintro _ hp2 ⟨rfl, st2⟩
  replace st := st.trans st2
  clear st2
  refine XR_nil ?_
  refine X_reg ?_
  refine XR_a (op_move rfl) rfl rfl ?_
  first | refine XR_a (op_field0 rfl rfl) rfl rfl ?_ | refine XR_a (op_fieldn rfl rfl) rfl rfl ?_
  refine XR_a (op_ld (st.cell 2 (i := 2) rfl rfl) rfl rfl rfl) rfl rfl ?_
  refine XR_as (.int .u32 ((x : Nat) : Int)) (congrArg (Value.int .u32) hx) ?_
  first | refine XR_a (op_field0 rfl rfl) rfl rfl ?_ | refine XR_a (op_fieldn rfl rfl) rfl rfl ?_
  refine XR_a (op_ld (st.cell 2 (i := 1) rfl rfl) rfl rfl rfl) rfl rfl ?_
  refine XR_wa (opl_call (put_spec (n := x) st.here (by omega) (by rw [List.length_append, codeBits_length]; omega)) rfl (by kernel_rfl)) rfl rfl rfl ?_
  rintro _ hp3 ⟨rfl, st2⟩
  replace st := st.trans st2
  clear st2
  have he : bs ++ codeBits (val ls k.num.toNat) (lenAt ls k.num) ++ bitsN (wd 32 k.bits) x = bs ++ symB ls k := by unfold symB; rw [hx, Int.toNat_natCast, List.append_assoc]
  rw [he] at st
  refine XR_nil ?_
  refine X_end .nil ?_
  exact (St.reF [_, _, _] 3 st [2, 0, 1] (by decide)).tail
theorem splitY_ok {t : Tok} (h : t.right) (hb : 0 ≤ t.byte ∧ t.byte < 256) : (0 ≤ (splitY t).a.ext ∧ (splitY t).a.ext < 4294967296) ∧ (0 ≤ (splitY t).b.ext ∧ (splitY t).b.ext < 4294967296) ∧ 0 ≤ (splitY t).a.num ∧ (splitY t).a.num < 273 ∧ 0 ≤ (splitY t).b.num ∧ (splitY t).b.num < 30 := by
  obtain ⟨_, h1, h2, _, h3, h4⟩ := join_split h hb
  refine ⟨?_, ?_, h1, h2, h3, h4⟩
  · unfold splitY
    split
    · simp
    · rename_i h0
      unfold Tok.right at h
      rw [if_neg h0] at h
      simp only [klsOf]
      omega
  · unfold splitY
    split
    · simp [Kls.nil]
    · rename_i h0
      unfold Tok.right at h
      rw [if_neg h0] at h
      simp only [klsOf]
      omega
theorem bput_spec {B p n c : Nat} {A : Option Addr} {ts : List Tok} {bs : List Bool} {F : List Res} {h0 : Heap} (st0 : St B h0 h0 (wrR p bs :: F)) (hrB : ∀ h' rs, St B h0 h' (rs ++ F) → Rd h' A (ts.flatMap tokV)) (hl : ts.length = n) (hn : n ≤ 17592186044416) (hby : ∀ t ∈ ts, 0 ≤ t.byte ∧ t.byte < 256) (hbs : bs.length ≤ 1000000) :
    Ret Try.prog 37 [.pointer (some ⟨p, 0, none⟩), .slice A n c] h0 fun v h' => v = nV (if rightL ts then 0 else 3) ∧ St B h0 h' (wrR p (bs ++ if rightL ts then blockB (ts.map splitY) else []) :: F) := by
  refine ret_of_X Try.func37 rfl rfl fun w0 hw0 => ?_
  simp only [argE, Nat.zero_add, Nat.reduceAdd]
  have st := st0
  refine X_seq ?_
  refine X_reg ?_
  refine XR_a (op_assign rfl) rfl rfl ?_
  refine XR_nil ?_
  refine X_seq ?_
  refine X_seq ?_
  refine X_reg ?_
  refine XR_a (op_move rfl) rfl rfl ?_
  refine XR_a (op_ptr_nil rfl rfl rfl) rfl rfl ?_
  refine XR_nil ?_
  refine X_else rfl ?_
  refine X_skip ?_
  refine X_seq ?_
  refine X_reg ?_
  refine XR_a (op_move rfl) rfl rfl ?_
  refine XR_wa (opl_call (brows_spec (St.start h0) (fun h' hh => (hrB h0 [_] st).ext hh) hl hn hby) rfl (by kernel_rfl)) rfl rfl rfl ?_
  rintro _ hp1 ⟨w, rfl, hyes, hno⟩
  refine XR_a (op_move rfl) rfl rfl ?_
  by_cases hR : rightL ts
  · replace st := st.join (hyes hR)
    rw [decide_eq_true hR, if_pos hR, if_pos hR]
    clear hyes hno
    have hY : ∀ y ∈ ts.map splitY, (0 ≤ y.a.ext ∧ y.a.ext < 4294967296) ∧ (0 ≤ y.b.ext ∧ y.b.ext < 4294967296) ∧ 0 ≤ y.a.num ∧ y.a.num < 273 ∧ 0 ≤ y.b.num ∧ y.b.num < 30 := fun y hy => by
      obtain ⟨t, ht, rfl⟩ := List.mem_map.1 hy
      exact splitY_ok (hR.2 t ht) (hby t ht)
    obtain ⟨ys, hys⟩ : ∃ ys, ts.map splitY = ys := ⟨_, rfl⟩
    have hyl : ys.length = n := by rw [← hys, List.length_map]; exact hl
    have hn6 := hR.1
    rw [hys] at st hY ⊢
    obtain ⟨A1, n1, c1, rfl, hl1, _⟩ := st.row 0 rfl
    rw [flat_length _ 7 (fun _ => rfl)] at hl1
    obtain rfl : n = n1 := by omega
    have hb30 : ∀ y ∈ ys, y.b.num.toNat < 30 := fun y hy => by have := hY y hy; omega
    have hokA := lA_ok ys
    have hokB := lB_ok hb30
    refine XR_a (op_extract rfl rfl) rfl rfl ?_
    refine XR_a (op_extract rfl rfl) rfl rfl ?_
    refine XR_a (op_assign rfl) rfl rfl ?_
    refine XR_a (op_assign rfl) rfl rfl ?_
    refine XR_nil ?_
    refine X_seq ?_
    refine X_seq ?_
    refine X_reg ?_
    refine XR_a (op_move rfl) rfl rfl ?_
    first | refine XR_a (op_notd rfl) rfl rfl ?_ | refine XR_a (op_not rfl) rfl rfl ?_
    refine XR_as (.bool false) rfl ?_
    refine XR_nil ?_
    refine X_else rfl ?_
    refine X_skip ?_
    refine X_seq ?_
    refine X_reg ?_
    refine XR_a (op_move rfl) rfl rfl ?_
    refine XR_wa (opl_call (bweigh1_spec (St.start hp1) (fun h' hh => (st.rdS 0 rfl).2.ext hh) hyl (by omega) (fun y hy => (hY y hy).2.2)) rfl (by kernel_rfl)) rfl rfl rfl ?_
    rintro _ hp2 ⟨w1, w2, rfl, st2⟩
    replace st := st.join st2
    clear st2
    obtain ⟨Aa, na, ca, rfl, hla, _⟩ := st.row 0 rfl
    obtain ⟨Ab, nb, cb, rfl, hlb, _⟩ := st.row 1 rfl
    rw [List.length_map, firstW_len, Nat.mul_one] at hla
    rw [List.length_map, secondW_len, Nat.mul_one] at hlb
    subst hla hlb
    replace st := St.reF [_, _, _, _] 4 st [3, 0, 1, 2] (by decide)
    simp only [List.map_cons, List.map_nil, getR, List.cons_append, List.nil_append] at st
    refine XR_a (op_move rfl) rfl rfl ?_
    refine XR_a (op_extract rfl rfl) rfl rfl ?_
    refine XR_a (op_extract rfl rfl) rfl rfl ?_
    refine XR_a (op_assign rfl) rfl rfl ?_
    refine XR_a (op_assign rfl) rfl rfl ?_
    refine XR_nil ?_
    refine X_seq ?_
    refine X_reg ?_
    refine XR_a (op_move rfl) rfl rfl ?_
    refine XR_a (op_move rfl) rfl rfl ?_
    refine XR_wa (opl_call (btable_spec st.here (fun h' rs hs => hs.rdM (List.mem_append_right _ List.mem_cons_self)) (firstW_len ys) (by omega) (by omega) (fun x hx => by have := firstW_le ys x hx; omega) (firstW_syms ys) (by omega)) rfl (by kernel_rfl)) rfl rfl rfl ?_
    rintro _ hp3 ⟨q1, rfl, st3⟩
    replace st := st.trans st3
    clear st3
    rw [show lensW (firstW ys) = lA ys from rfl] at st
    have hlA := putR_len hokA
    rw [show (lA ys).length = 273 by unfold lA; rw [lensW_length, firstW_len]] at hlA
    refine XR_a (op_move rfl) rfl rfl ?_
    refine XR_a (op_move rfl) rfl rfl ?_
    refine XR_wa (opl_call (btable_spec st.here (fun h' rs hs => hs.rdM (List.mem_append_right _ (List.mem_cons_of_mem _ (List.mem_cons_of_mem _ List.mem_cons_self)))) (secondW_len ys) (by omega) (by omega) (fun x hx => by have := secondW_le ys x hx; omega) (secondW_syms hb30) (by rw [List.length_append]; omega)) rfl (by kernel_rfl)) rfl rfl rfl ?_
    rintro _ hp4 ⟨q2, rfl, st3⟩
    replace st := st.trans st3
    clear st3
    rw [show lensW (secondW ys) = lB ys from rfl] at st
    have hlB := putR_len hokB
    rw [show (lB ys).length = 30 by unfold lB; rw [lensW_length, secondW_len]] at hlB
    replace st := (St.reF [_, _, _, _, _, _] 6 st [3, 4, 0, 2, 1, 5] (by decide)).tail.tail
    simp only [List.map_cons, List.map_nil, getR, List.cons_append, List.nil_append] at st
    obtain ⟨la, hla⟩ : ∃ x, lA ys = x := ⟨_, rfl⟩
    obtain ⟨lb, hlb⟩ : ∃ x, lB ys = x := ⟨_, rfl⟩
    have hbl : blockB ys = putR la ++ putR lb ++ ys.flatMap (syB la lb) ++ codeBits (val la 256) (lenAt la 256) := by unfold blockB; rw [hla, hlb]
    rw [hla] at st hokA hlA
    rw [hlb] at st hokB hlB
    rw [hbl]
    have hfl := fun i => flat_bd (syB la lb) 94 (syB_len hokA hokB) (ys.take i)
    refine XR_a (op_assign rfl) rfl rfl ?_
    refine XR_a (op_assign rfl) rfl rfl ?_
    refine XR_nil ?_
    refine X_seq ?_
    refine X_seq ?_
    refine X_reg ?_
    refine XR_a (op_move rfl) rfl rfl ?_
    refine XR_a (op_len rfl rfl rfl) rfl rfl ?_
    refine XR_a (op_move rfl) rfl rfl ?_
    refine XR_nil ?_
    refine X_block ?_
    refine X_loop (fun i => n - i) (fun i => [(0, .pointer (some ⟨p, 0, none⟩)), (9, .pointer (some ⟨q1, 0, none⟩)), (10, .pointer (some ⟨q2, 0, none⟩)), (33, .slice A1 n c1), (34, nV n), (35, nV i)])
      (fun (i : Nat) hp => i ≤ n ∧ St B h0 hp (wrR p (bs ++ putR la ++ putR lb ++ (ys.take i).flatMap (syB la lb)) :: codeR q1 la :: codeR q2 lb :: row 122 7 (.slice A1 n c1) (ys.flatMap syV) :: F))
      0 (.cons rfl (.cons rfl (.cons rfl (.cons rfl (.cons rfl (.cons rfl (.nil _))))))) ⟨Nat.zero_le _, by rw [List.take_zero, List.flatMap_nil, List.append_nil]; exact st⟩ ?_
    clear st
    rintro i hp ⟨hi, st⟩
    have hfi := hfl i
    rw [List.length_take] at hfi
    refine X_seq ?_
    refine X_reg ?_
    refine XR_a (op_lss rfl rfl) rfl rfl ?_
    refine XR_nil ?_
    refine X_seq ?_
    refine X_if rfl (fun h => ?_) (fun h => ?_)
    · have hil : i < ys.length := by omega
      obtain ⟨y, hy⟩ : ∃ y, ys[i] = y := ⟨_, rfl⟩
      have hyo := hY y (hy ▸ List.getElem_mem hil)
      obtain ⟨gy, oy, rfl, hcy⟩ := Rd.flat syV 7 (st.rdS 3 rfl).2 (fun _ => rfl) (by omega) (by omega)
      have hcx := hcy i hil
      rw [hy] at hcx
      have htk : (ys.take (i + 1)).flatMap (syB la lb) = (ys.take i).flatMap (syB la lb) ++ syB la lb y := by rw [List.take_succ_eq_append_getElem hil, hy, List.flatMap_append]; simp
      refine X_skip ?_
      refine X_seq ?_
      refine X_block ?_
      refine X_seq ?_
      refine X_reg ?_
      refine XR_a (op_index (i := i) rfl rfl rfl (by omega)) rfl rfl ?_
      refine XR_a (op_ldA (vs := syV y) hcx rfl rfl rfl rfl) rfl rfl ?_
      refine XR_wa (opl_new rfl) rfl rfl rfl ?_
      rintro _ hp5 ⟨p12, rfl, hnew⟩
      replace st := st.new hnew
      refine XR_wn (opl_store_whole (us := syV y) st 0 rfl rfl rfl rfl rfl (syV_one _) rfl) rfl rfl fun _ hp6 st => ?_
      simp only [List.set_cons_zero, List.set_cons_succ] at st
      refine XR_nil ?_
      refine X_seq ?_
      refine X_reg ?_
      refine XR_a (op_move rfl) rfl rfl ?_
      refine XR_a (op_move rfl) rfl rfl ?_
      first | refine XR_a (op_field0 rfl rfl) rfl rfl ?_ | refine XR_a (op_fieldn rfl rfl) rfl rfl ?_
      refine XR_a (op_ldA (vs := clsV y.a) (st.part 0 0 [] (clsV y.a) (clsV y.b ++ [.bool y.m]) rfl rfl) rfl rfl rfl rfl) rfl rfl ?_
      replace st := St.reF [_, _, _, _, _] 5 st [1, 2, 0, 3, 4] (by decide)
      simp only [List.map_cons, List.map_nil, getR, List.cons_append, List.nil_append] at st
      refine XR_wa (opl_call (bone_spec st.here hokA hyo.1 (by simp only [List.length_append]; omega)) rfl (by kernel_rfl)) rfl rfl rfl ?_
      rintro _ hp7 st2
      replace st := st.trans st2
      clear st2
      refine XR_nil ?_
      refine X_seq ?_
      refine X_reg ?_
      first | refine XR_a (op_field0 rfl rfl) rfl rfl ?_ | refine XR_a (op_fieldn rfl rfl) rfl rfl ?_
      refine XR_a (op_ld (st.cell 2 (i := 6) rfl rfl) rfl rfl rfl) rfl rfl ?_
      refine XR_as (.bool (decide (y.m = true))) (congrArg Value.bool (by cases y.m <;> rfl)) ?_
      refine XR_nil ?_
      refine X_if rfl (fun h => ?_) (fun h => ?_)
      · refine X_reg ?_
        refine XR_a (op_move rfl) rfl rfl ?_
        refine XR_a (op_move rfl) rfl rfl ?_
        first | refine XR_a (op_field0 rfl rfl) rfl rfl ?_ | refine XR_a (op_fieldn rfl rfl) rfl rfl ?_
        refine XR_a (op_ldA (vs := clsV y.b) (st.part 2 3 (clsV y.a) (clsV y.b) [.bool y.m] rfl rfl) rfl rfl rfl rfl) rfl rfl ?_
        replace st := St.reF [_, _, _, _, _] 5 st [0, 3, 1, 2, 4] (by decide)
        simp only [List.map_cons, List.map_nil, getR, List.cons_append, List.nil_append] at st
        have hsl := symB_len hokA y.a
        refine XR_wa (opl_call (bone_spec st.here hokB hyo.2.1 (by simp only [List.length_append]; omega)) rfl (by kernel_rfl)) rfl rfl rfl ?_
        rintro _ hp8 st2
        replace st := st.trans st2
        clear st2
        refine XR_nil ?_
        refine X_blk ?_
        refine X_reg ?_
        first | refine XR_a (op_addN (n := 1) rfl rfl (by simp only [inK]; omega)) rfl rfl ?_ | refine XR_a (op_addI rfl rfl (by simp only [inK]; omega)) rfl rfl ?_ | refine XR_a (op_add rfl rfl) rfl rfl ?_
        refine XR_a (op_move rfl) rfl rfl ?_
        refine XR_nil ?_
        have he : bs ++ putR la ++ putR lb ++ (ys.take i).flatMap (syB la lb) ++ symB la y.a ++ symB lb y.b = bs ++ putR la ++ putR lb ++ (ys.take (i + 1)).flatMap (syB la lb) := by
          rw [htk]; unfold syB; rw [if_pos h]; simp only [List.append_assoc]
        rw [he] at st
        replace st := (St.reF [_, _, _, _, _] 5 st [3, 0, 2, 1, 4] (by decide)).tail
        exact X_again (i + 1) (.cons rfl (.cons rfl (.cons rfl (.cons rfl (.cons rfl (.cons rfl (.nil _))))))) ⟨by omega, st⟩ (by omega)
      · refine X_skip ?_
        refine X_blk ?_
        refine X_reg ?_
        first | refine XR_a (op_addN (n := 1) rfl rfl (by simp only [inK]; omega)) rfl rfl ?_ | refine XR_a (op_addI rfl rfl (by simp only [inK]; omega)) rfl rfl ?_ | refine XR_a (op_add rfl rfl) rfl rfl ?_
        refine XR_a (op_move rfl) rfl rfl ?_
        refine XR_nil ?_
        have he : bs ++ putR la ++ putR lb ++ (ys.take i).flatMap (syB la lb) ++ symB la y.a = bs ++ putR la ++ putR lb ++ (ys.take (i + 1)).flatMap (syB la lb) := by
          rw [htk]; unfold syB; rw [if_neg h, List.append_nil]; simp only [List.append_assoc]
        rw [he] at st
        replace st := (St.reF [_, _, _, _, _] 5 st [2, 0, 1, 3, 4] (by decide)).tail
        exact X_again (i + 1) (.cons rfl (.cons rfl (.cons rfl (.cons rfl (.cons rfl (.cons rfl (.nil _))))))) ⟨by omega, st⟩ (by omega)
    · rw [List.take_of_length_le (by omega)] at st hfi
      refine X_exit rfl ?_
      refine X_seq ?_
      refine X_reg ?_
      refine XR_a (op_move rfl) rfl rfl ?_
      refine XR_a (op_move rfl) rfl rfl ?_
      refine XR_wa (opl_call (cput_spec (s := 256) st.here hokA (by simp only [List.length_append]; omega)) rfl (by kernel_rfl)) rfl rfl rfl ?_
      rintro _ hp9 ⟨rfl, st2⟩
      replace st := st.trans st2
      clear st2
      refine XR_nil ?_
      refine X_seq ?_
      refine X_reg ?_
      refine XR_a (op_assign rfl) rfl rfl ?_
      refine XR_nil ?_
      refine X_ret (.cons (.tmp rfl) .nil) ?_
      have he : bs ++ putR la ++ putR lb ++ ys.flatMap (syB la lb) ++ codeBits (val la (256 : Int).toNat) (lenAt la 256) = bs ++ (putR la ++ putR lb ++ ys.flatMap (syB la lb) ++ codeBits (val la 256) (lenAt la 256)) := by
        simp only [List.append_assoc]; rfl
      rw [he] at st
      exact ⟨rfl, (St.reF [_, _, _, _] 4 st [1, 2, 3, 0] (by decide)).tail.tail.tail⟩
  · replace st := st.ext (hno hR).low
    rw [decide_eq_false hR, if_neg hR, if_neg hR]
    clear hyes hno
    refine XR_a (op_extract rfl rfl) rfl rfl ?_
    refine XR_a (op_extract rfl rfl) rfl rfl ?_
    refine XR_a (op_assign rfl) rfl rfl ?_
    refine XR_a (op_assign rfl) rfl rfl ?_
    refine XR_nil ?_
    refine X_seq ?_
    refine X_seq ?_
    refine X_reg ?_
    refine XR_a (op_move rfl) rfl rfl ?_
    first | refine XR_a (op_notd rfl) rfl rfl ?_ | refine XR_a (op_not rfl) rfl rfl ?_
    refine XR_as (.bool true) rfl ?_
    refine XR_nil ?_
    refine X_then rfl ?_
    refine X_seq ?_
    refine X_reg ?_
    refine XR_a (op_assign rfl) rfl rfl ?_
    refine XR_nil ?_
    refine X_ret (.cons (.tmp rfl) .nil) ?_
    rw [List.append_nil]
    exact ⟨rfl, st⟩
end Go.Bn
end

section
namespace Go.Bn
open Go Proofs
theorem numB_here (Q : List Bool) {k x : Nat} (z : List Bool) (hx : x < 2 ^ k) : numB (Q ++ (bitsN k x ++ z)) Q.length k = x := by
  unfold numB
  rw [List.drop_left, List.take_append_of_le_length (by rw [bitsN_length]; exact Nat.le_refl _), List.take_of_length_le (by rw [bitsN_length]; exact Nat.le_refl _), valB_bitsN, Nat.mod_eq_of_lt hx]
theorem rH_rW (s : Nat) : rH s - rL s < 2 ^ rW s := by
  unfold rH rL rW
  split
  · decide
  · split
    · decide
    · split
      · decide
      · decide
theorem goT_parts {ls lens : List Nat} (hb : ∀ x ∈ ls, x ≤ 15) (hok : lensOK lens) (h19 : lens.length = 19) (z : List Bool) : ∀ (f a : Nat) (Q : List Bool), a ≤ ls.length → ls.length < a + f → (∀ x ∈ partsL ls a, lens.getD x.1 0 ≠ 0) →
    goT lens (Q ++ ((partsL ls a).flatMap (partBits lens) ++ z)) ls.length f Q.length (ls.take a) = (ls, (Q ++ (partsL ls a).flatMap (partBits lens)).length, 0)
  | 0, a, Q, ha, hf, hp => by omega
  | f + 1, a, Q, ha, hf, hp => by
    rw [goT]
    have hlt := List.length_take (l := ls) (i := a)
    rw [Nat.min_eq_left ha] at hlt
    rw [hlt]
    by_cases h : a < ls.length
    · rw [if_neg (by omega)]
      have hfit := partAt_fits hb h
      have hm := partAt_many h
      have hrl := runAt_le ls a
      have hadd := partAt_add hb h
      rw [partsL_cons h] at hp ⊢
      obtain ⟨x, hx⟩ : ∃ x, partAt ls a = x := ⟨_, rfl⟩
      rw [hx] at hfit hm hadd hp ⊢
      have hx0 := hp x List.mem_cons_self
      have hxl : x.1 < lens.length := by omega
      have hge := getD_eq hxl
      rw [hge] at hx0
      have ih := goT_parts hb hok h19 z f (a + x.2) (Q ++ partBits lens x) (by omega) (by omega) (fun y hy => hp y (List.mem_cons_of_mem _ hy))
      obtain ⟨R, hR⟩ : ∃ R, (partsL ls (a + x.2)).flatMap (partBits lens) = R := ⟨_, rfl⟩
      rw [List.flatMap_cons, hR]
      rw [hR] at ih
      have hpb : partBits lens x = codeBits (val lens x.1) lens[x.1] ++ bitsN (rW x.1) (x.2 - rL x.1) := by unfold partBits; rw [hge]
      obtain ⟨S, hS⟩ : ∃ S, Q ++ (partBits lens x ++ R ++ z) = S := ⟨_, rfl⟩
      have hS1 : S = Q ++ (codeBits (val lens x.1) lens[x.1] ++ (bitsN (rW x.1) (x.2 - rL x.1) ++ (R ++ z))) := by rw [← hS, hpb]; simp
      have hS2 : S = (Q ++ codeBits (val lens x.1) lens[x.1]) ++ (bitsN (rW x.1) (x.2 - rL x.1) ++ (R ++ z)) := by rw [hS1]; simp
      have hS3 : Q ++ partBits lens x ++ (R ++ z) = S := by rw [← hS]; simp
      have htk : takeC lens (S.drop Q.length) = (x.1, lens[x.1], 0) := by rw [hS1, List.drop_left]; exact takeC_put hok hxl hx0 _
      have hrw := rH_rW x.1
      have hnum : numB S (Q.length + lens[x.1]) (rW x.1) = x.2 - rL x.1 := by
        have := numB_here (Q ++ codeBits (val lens x.1) lens[x.1]) (R ++ z) (show x.2 - rL x.1 < 2 ^ rW x.1 by omega)
        rw [← hS2, List.length_append, codeBits_length] at this
        exact this
      have hSl : Q.length + lens[x.1] + rW x.1 ≤ S.length := by rw [hS2]; simp only [List.length_append, codeBits_length, bitsN_length]; omega
      rw [hS3] at ih
      rw [hS, htk]
      simp only
      rw [hnum, if_neg (by omega), if_neg (by omega), if_neg (fun hh => by have := hfit.2.2.2 hh.1; omega), if_neg (by omega), show rL x.1 + (x.2 - rL x.1) = x.2 by omega, hadd]
      rw [show (Q ++ partBits lens x).length = Q.length + lens[x.1] + rW x.1 by rw [hpb]; simp only [List.length_append, codeBits_length, bitsN_length]; omega] at ih
      rw [ih]
      simp only [List.append_assoc]
    · rw [if_pos (by omega), partsL_end (by omega), List.take_of_length_le (by omega)]
      simp
theorem putHead_len_eq (l : List Nat) : ∀ i, i ≤ 19 → (putHead l i).length = 9 + 4 * i
  | 0, _ => by unfold putHead; simp [bitsN_length]
  | i + 1, h => by
    rw [putHead_succ (by omega), List.length_append, putHead_len_eq l i (by omega), bitsN_length]; omega
theorem putHead_pre (l : List Nat) : ∀ j i, i + j = 19 → ∃ r, putHead l 19 = putHead l i ++ r
  | 0, i, h => ⟨[], by rw [List.append_nil, show i = 19 by omega]⟩
  | j + 1, i, h => by
    obtain ⟨r, hr⟩ := putHead_pre l j (i + 1) (by omega)
    exact ⟨bitsN 4 ((plens l).getD i 0) ++ r, by rw [hr, putHead_succ (by omega), List.append_assoc]⟩
theorem takeR_putQ {ls : List Nat} (hb : ∀ x ∈ ls, x ≤ 15) (h1 : 1 ≤ ls.length) (h320 : ls.length ≤ 320) (Q z : List Bool) : takeR (Q ++ (putR ls ++ z)) Q.length (okR (Q ++ (putR ls ++ z)) Q.length) = (ls, Q.length + (putR ls).length, 0) := by
  have hok := plens_ok hb h1
  have h19 := plens_len ls
  have hl85 := putHead_len_eq ls 19 (by omega)
  obtain ⟨R, hR⟩ : ∃ R, (partsL ls 0).flatMap (partBits (plens ls)) = R := ⟨_, rfl⟩
  have hput : putR ls = putHead ls 19 ++ R := by unfold putR; rw [hR]
  obtain ⟨S, hS⟩ : ∃ S, Q ++ (putR ls ++ z) = S := ⟨_, rfl⟩
  have hS1 : S = Q ++ (putHead ls 19 ++ (R ++ z)) := by rw [← hS, hput, List.append_assoc]
  have hn : numB S Q.length 9 = ls.length := by
    have := numB_here Q (k := 9) (x := ls.length) (((plens ls).take 19).flatMap (bitsN 4) ++ (R ++ z)) (by omega)
    rw [hS1]
    unfold putHead
    rw [List.append_assoc]
    exact this
  have hlens : lens19 S (Q.length + 9) 19 = plens ls := by
    refine List.ext_getElem (by rw [lens19_len, h19]) fun k q1 q2 => ?_
    simp only [lens19, List.getElem_map, List.getElem_range]
    rw [if_pos (by omega)]
    obtain ⟨r, hr⟩ := putHead_pre ls (18 - k) (k + 1) (by omega)
    have hle := hok.2.2.1 _ (List.getElem_mem q2)
    have := numB_here (Q ++ putHead ls k) (k := 4) (x := (plens ls)[k]) (r ++ (R ++ z)) (by omega)
    rw [List.length_append, putHead_len_eq ls k (by omega)] at this
    rw [hS1, hr, putHead_succ (by omega), getD_eq q2, List.append_assoc, List.append_assoc]
    rw [show Q.length + 9 + 4 * k = Q.length + (9 + 4 * k) by omega]
    rw [List.append_assoc] at this
    exact this
  have hokr : okR S Q.length = true := by
    unfold okR
    rw [hlens]
    refine decide_eq_true ?_
    refine ⟨by rw [List.length_map, h19]; omega, ⟨by rw [List.length_map, h19]; omega, fun x hx => ?_⟩, by rw [cast_toNat]; exact hok.2.2.2⟩
    obtain ⟨y, hy, rfl⟩ := List.mem_map.1 hx
    have := hok.2.2.1 y hy; omega
  have hSl : Q.length + 85 ≤ S.length := by rw [hS1, List.length_append, List.length_append]; omega
  rw [hS, hokr]
  have hH : headE S Q.length true = 0 := by
    unfold headE
    rw [if_neg (by omega), hn, if_neg (by omega), if_neg (by omega), if_pos rfl]
  unfold takeR
  rw [if_neg (by omega), hlens, hn]
  have := goT_parts hb hok h19 z 321 0 (Q ++ putHead ls 19) (by omega) (by omega) (fun x hx => plens_pos hb hx)
  rw [hR, List.append_assoc, ← hS1, List.take_zero, List.length_append, hl85, List.append_assoc, ← hput, List.length_append] at this
  exact this
theorem clsT_back {ls : List Nat} (hok : lensOK ls) {c : Kls} {n fr : Nat} (hn : c.num = n) (hl : n < ls.length) (h0 : ls[n] ≠ 0) (hlit : n < fr → c.bits = 0 ∧ c.ext = 0) (hbig : fr ≤ n → c.bits = bitsC (n - fr) ∧ 0 ≤ c.ext ∧ c.ext < ((2 ^ bitsC (n - fr) : Nat) : Int)) (h32 : fr ≤ n → bitsC (n - fr) ≤ 32) (Q Z : List Bool) :
    clsT ls fr (Q ++ (symB ls c ++ Z)) Q.length = (c, Q.length + (symB ls c).length, 0) := by
  have hge : lenAt ls c.num = ls[n] := by
    unfold lenAt
    rw [hn, if_neg (by omega), Int.toNat_natCast]
    exact getD_get hl
  obtain ⟨cn, cb, ce⟩ := c
  simp only at hn hlit hbig hge ⊢
  subst hn
  have hsy : symB ls ⟨n, cb, ce⟩ = codeBits (val ls n) ls[n] ++ bitsN (wd 32 cb) ce.toNat := by
    unfold symB
    simp only [Int.toNat_natCast]
    rw [hge]
  obtain ⟨S, hS⟩ : ∃ S, Q ++ (symB ls ⟨n, cb, ce⟩ ++ Z) = S := ⟨_, rfl⟩
  have hS1 : S = Q ++ (codeBits (val ls n) ls[n] ++ (bitsN (wd 32 cb) ce.toNat ++ Z)) := by rw [← hS, hsy, List.append_assoc]
  have hS2 : S = (Q ++ codeBits (val ls n) ls[n]) ++ (bitsN (wd 32 cb) ce.toNat ++ Z) := by rw [hS1]; simp
  have htk : takeC ls (S.drop Q.length) = (n, ls[n], 0) := by rw [hS1, List.drop_left]; exact takeC_put hok hl h0 _
  have hslen : (symB ls ⟨n, cb, ce⟩).length = ls[n] + wd 32 cb := by rw [hsy, List.length_append, codeBits_length, bitsN_length]
  rw [hS, hslen]
  unfold clsT
  rw [htk]
  simp only
  by_cases hlt : n < fr
  · obtain ⟨rfl, rfl⟩ := hlit hlt
    rw [if_pos (.inr hlt)]
    rfl
  · obtain ⟨hb, he1, he2⟩ := hbig (by omega)
    have h32 := h32 (by omega)
    obtain ⟨e, rfl⟩ : ∃ e : Nat, ce = e := ⟨ce.toNat, by omega⟩
    have hw : wd 32 cb = bitsC (n - fr) := by unfold wd; omega
    have he3 : e < 2 ^ bitsC (n - fr) := by omega
    rw [hw, Int.toNat_natCast] at hS2
    have hnum : numB S (Q.length + ls[n]) (bitsC (n - fr)) = e := by
      have := numB_here (Q ++ codeBits (val ls n) ls[n]) Z he3
      rw [← hS2, List.length_append, codeBits_length] at this
      exact this
    have hSl : Q.length + ls[n] + bitsC (n - fr) ≤ S.length := by rw [hS2]; simp only [List.length_append, codeBits_length, bitsN_length]; omega
    rw [if_neg (by omega), if_neg (by omega), hnum, hw, hb]
    simp only [Nat.add_assoc]
theorem klsOf_ok (v : Nat) : (klsOf v).num = klsN v ∧ (klsOf v).bits = bitsC (klsN v) ∧ 0 ≤ (klsOf v).ext ∧ (klsOf v).ext < ((2 ^ bitsC (klsN v) : Nat) : Int) := by
  obtain ⟨h1, h2, _⟩ := klsN_between v
  rw [show baseC (klsN v + 1) = baseC (klsN v) + 2 ^ bitsC (klsN v) from rfl] at h2
  refine ⟨rfl, rfl, by simp only [klsOf]; omega, by simp only [klsOf]; omega⟩
theorem bitsC_le {i : Nat} (h : i < 30) : bitsC i ≤ 32 := by unfold bitsC; split <;> omega
theorem nextT_back {la lb : List Nat} (oka : lensOK la) (okb : lensOK lb) (h273 : la.length = 273) (h30 : lb.length = 30) {t : Tok} (ht : t.right) (hby : 0 ≤ t.byte ∧ t.byte < 256)
    (ha : la.getD (splitY t).a.num.toNat 0 ≠ 0) (hb : (splitY t).m = true → lb.getD (splitY t).b.num.toNat 0 ≠ 0) (Q Z : List Bool) :
    nextT la lb (Q ++ (syB la lb (splitY t) ++ Z)) Q.length = (t, Q.length + (syB la lb (splitY t)).length, false, 0) := by
  obtain ⟨hj, n1, n2, n3, n4, n5⟩ := join_split ht hby
  have ht' := ht
  unfold Tok.right at ht
  by_cases h0 : t.len = 0
  · rw [if_pos h0] at ht
    have e : splitY t = ⟨⟨t.byte, 0, 0⟩, Kls.nil, false⟩ := by unfold splitY; rw [if_pos h0]
    rw [e] at hj ha ⊢
    obtain ⟨n, hn⟩ : ∃ n : Nat, t.byte = n := ⟨t.byte.toNat, by omega⟩
    simp only [hn, Int.toNat_natCast] at hj ha ⊢
    have hl : n < la.length := by omega
    rw [getD_get hl] at ha
    have hsy : syB la lb ⟨⟨n, 0, 0⟩, Kls.nil, false⟩ = symB la ⟨n, 0, 0⟩ := by unfold syB; simp
    rw [hsy]
    have hc := clsT_back oka (c := ⟨n, 0, 0⟩) (fr := 257) rfl hl ha (fun _ => ⟨rfl, rfl⟩) (fun h => by omega) (fun h => by omega) Q Z
    unfold nextT
    rw [hc]
    simp only
    rw [if_neg (by omega), if_neg (by omega), hj, if_pos rfl]
  · rw [if_neg h0] at ht
    obtain ⟨g1, g2, g3, g4, g5⟩ := ht
    have e : splitY t = ⟨⟨(klsOf (t.len - 3).toNat).num + 257, (klsOf (t.len - 3).toNat).bits, (klsOf (t.len - 3).toNat).ext⟩, klsOf (t.dist - 1).toNat, true⟩ := by unfold splitY; rw [if_neg h0]
    have k1 := klsN_255 (show (t.len - 3).toNat < 256 by omega)
    have k2 := (klsN_between (t.dist - 1).toNat).2.2 (by omega)
    obtain ⟨p1, p2, p3, p4⟩ := klsOf_ok (t.len - 3).toNat
    obtain ⟨q1, q2, q3, q4⟩ := klsOf_ok (t.dist - 1).toNat
    rw [e] at hj ha hb ⊢
    obtain ⟨ka, hka⟩ : ∃ k, klsOf (t.len - 3).toNat = k := ⟨_, rfl⟩
    obtain ⟨kb, hkb⟩ : ∃ k, klsOf (t.dist - 1).toNat = k := ⟨_, rfl⟩
    obtain ⟨na, hna⟩ : ∃ k, klsN (t.len - 3).toNat = k := ⟨_, rfl⟩
    obtain ⟨nb, hnb⟩ : ∃ k, klsN (t.dist - 1).toNat = k := ⟨_, rfl⟩
    rw [hka, hna] at p1 p2 p4
    rw [hka] at p3 hj ha hb ⊢
    rw [hkb, hnb] at q1 q2 q4
    rw [hkb] at q3 hj hb ⊢
    rw [hna] at k1
    rw [hnb] at k2
    have hb := hb rfl
    simp only at ha hb
    rw [show (ka.num + 257).toNat = na + 257 by omega] at ha
    rw [show kb.num.toNat = nb by omega] at hb
    have hla : na + 257 < la.length := by omega
    have hlb : nb < lb.length := by omega
    rw [getD_get hla] at ha
    rw [getD_get hlb] at hb
    have hsy : syB la lb ⟨⟨ka.num + 257, ka.bits, ka.ext⟩, kb, true⟩ = symB la ⟨ka.num + 257, ka.bits, ka.ext⟩ ++ symB lb kb := by unfold syB; rw [if_pos rfl]
    rw [hsy]
    have hc := clsT_back oka (c := ⟨ka.num + 257, ka.bits, ka.ext⟩) (n := na + 257) (fr := 257) (by show ka.num + 257 = ((na + 257 : Nat) : Int); omega) hla ha (fun h => by omega) (fun _ => by rw [show na + 257 - 257 = na by omega]; exact ⟨p2, p3, p4⟩) (fun _ => bitsC_le (by omega)) Q (symB lb kb ++ Z)
    have hd := clsT_back okb (c := kb) (n := nb) (fr := 0) q1 hlb hb (fun h => by omega) (fun _ => ⟨q2, q3, q4⟩) (fun _ => bitsC_le (by omega)) (Q ++ symB la ⟨ka.num + 257, ka.bits, ka.ext⟩) Z
    rw [List.length_append, List.append_assoc] at hd
    unfold nextT
    rw [List.append_assoc, hc]
    simp only
    rw [if_neg (by omega), if_pos (by omega), hd]
    simp only
    rw [if_neg (by omega), hj, if_pos rfl, List.length_append, Nat.add_assoc]
theorem nextT_end {la lb : List Nat} (oka : lensOK la) (h273 : la.length = 273) (ha : la.getD 256 0 ≠ 0) (Q Z : List Bool) :
    nextT la lb (Q ++ (codeBits (val la 256) (lenAt la 256) ++ Z)) Q.length = (Tok.nil, Q.length + (codeBits (val la 256) (lenAt la 256)).length, true, 0) := by
  have hl : 256 < la.length := by omega
  rw [getD_get hl] at ha
  have hsy : symB la ⟨(256 : Nat), 0, 0⟩ = codeBits (val la 256) (lenAt la 256) := by unfold symB; simp [wd]; rfl
  have hc := clsT_back oka (c := ⟨(256 : Nat), 0, 0⟩) (fr := 257) rfl hl ha (fun _ => ⟨rfl, rfl⟩) (fun h => by omega) (fun h => by omega) Q Z
  rw [hsy] at hc
  unfold nextT
  rw [hc]
  simp only
  rw [if_pos (.inr rfl)]
def distOK : Nat → List Tok → Prop
  | _, [] => True
  | sz, t :: ts => t.dist ≤ sz ∧ distOK (sz + t.size) ts
def sizeT (ts : List Tok) : Nat := (ts.map Tok.size).sum
theorem goB_back {la lb : List Nat} (oka : lensOK la) (okb : lensOK lb) (h273 : la.length = 273) (h30 : lb.length = 30) (h256 : la.getD 256 0 ≠ 0) (Z : List Bool) {most : Int} : ∀ (ts : List Tok), (∀ t ∈ ts, t.right ∧ (0 ≤ t.byte ∧ t.byte < 256) ∧ la.getD (splitY t).a.num.toNat 0 ≠ 0 ∧ ((splitY t).m = true → lb.getD (splitY t).b.num.toNat 0 ≠ 0)) → ∀ (f sz : Nat) (acc : List Tok) (Q : List Bool), ts.length < f → distOK sz ts → ((sz + sizeT ts : Nat) : Int) ≤ most →
    goB la lb (Q ++ ((ts.map splitY).flatMap (syB la lb) ++ (codeBits (val la 256) (lenAt la 256) ++ Z))) most f Q.length sz acc = (acc ++ ts, sz + sizeT ts, Q.length + ((ts.map splitY).flatMap (syB la lb)).length + (codeBits (val la 256) (lenAt la 256)).length, 0)
  | [], _, f, sz, acc, Q, hf, _, _ => by
    obtain ⟨g, rfl⟩ : ∃ g, f = g + 1 := ⟨f - 1, by simp at hf; omega⟩
    have hn := nextT_end (lb := lb) oka h273 h256 Q Z
    rw [List.map_nil, List.flatMap_nil, List.nil_append, goB, hn]
    simp [sizeT]
  | t :: ts, h, f, sz, acc, Q, hf, hd, hm => by
    obtain ⟨g, rfl⟩ : ∃ g, f = g + 1 := ⟨f - 1, by simp at hf; omega⟩
    obtain ⟨h1, h2, h3, h4⟩ := h t List.mem_cons_self
    obtain ⟨d1, d2⟩ := hd
    have hst : sizeT (t :: ts) = t.size + sizeT ts := by simp [sizeT]
    rw [hst] at hm ⊢
    rw [List.map_cons, List.flatMap_cons, List.append_assoc]
    have hn := nextT_back oka okb h273 h30 h1 h2 h3 h4 Q ((ts.map splitY).flatMap (syB la lb) ++ (codeBits (val la 256) (lenAt la 256) ++ Z))
    have ih := goB_back oka okb h273 h30 h256 Z (most := most) ts (fun x hx => h x (List.mem_cons_of_mem _ hx)) g (sz + t.size) (acc ++ [t]) (Q ++ syB la lb (splitY t)) (by simp at hf; omega) d2 (by omega)
    rw [goB, hn]
    simp only
    rw [if_neg (by simp), if_neg (by omega), if_neg (by omega)]
    rw [List.append_assoc, List.length_append] at ih
    rw [ih, List.length_append]
    simp only [List.append_assoc, List.cons_append, List.nil_append, Prod.mk.injEq, and_true, true_and]
    omega
end Go.Bn
end

section
namespace Go.Bn
open Go Proofs
theorem getD_lensW {ws : List Nat} {s : Nat} (h2 : ws.length ≤ 16000) (hs : s < ws.length) (hp : 0 < ws.getD s 0) : (lensW ws).getD s 0 ≠ 0 := by
  rw [lensW_get hs]
  have := lenW_pos (ws := ws) h2 (mem_syms.2 ⟨hs, hp⟩)
  omega
theorem foldW_mem : ∀ (ys : List Sy) (s : List Nat × List Nat × Nat) (y : Sy), s.1.length = 273 → s.2.1.length = 30 → y.a.num.toNat < 273 → y.b.num.toNat < 30 →
    ((y ∈ ys ∨ 0 < s.1.getD y.a.num.toNat 0) → 0 < (ys.foldl stepW s).1.getD y.a.num.toNat 0) ∧ ((y.m = true ∧ y ∈ ys ∨ 0 < s.2.1.getD y.b.num.toNat 0) → 0 < (ys.foldl stepW s).2.1.getD y.b.num.toNat 0) ∧ ((y.m = true ∧ y ∈ ys ∨ 0 < s.2.2) → 0 < (ys.foldl stepW s).2.2)
  | [], s, y, _, _, _, _ => ⟨fun h => h.resolve_left (by simp), fun h => h.resolve_left (by simp), fun h => h.resolve_left (by simp)⟩
  | z :: ys, s, y, h1, h2, h3, h4 => by
    rw [List.foldl_cons]
    obtain ⟨i1, i2, i3⟩ := foldW_mem ys (stepW s z) y (by simp only [stepW]; rw [addAt_length]; exact h1) (by simp only [stepW]; split; rw [addAt_length]; exact h2; exact h2) h3 h4
    refine ⟨fun h => i1 ?_, fun h => i2 ?_, fun h => i3 ?_⟩
    · rcases h with h | h
      · rcases List.mem_cons.1 h with rfl | h
        · exact .inr (addAt_pos (by omega))
        · exact .inl h
      · exact .inr (Nat.lt_of_lt_of_le h (addAt_ge _ _ _))
    · simp only [stepW]
      rcases h with ⟨hm, h⟩ | h
      · rcases List.mem_cons.1 h with rfl | h
        · rw [if_pos hm]; exact .inr (addAt_pos (by omega))
        · exact .inl ⟨hm, h⟩
      · refine .inr ?_
        split
        · exact Nat.lt_of_lt_of_le h (addAt_ge _ _ _)
        · exact h
    · simp only [stepW]
      rcases h with ⟨hm, h⟩ | h
      · rcases List.mem_cons.1 h with rfl | h
        · rw [if_pos hm]; exact .inr (Nat.succ_pos _)
        · exact .inl ⟨hm, h⟩
      · refine .inr ?_
        split <;> omega
theorem lA_pos {ys : List Sy} {y : Sy} (hy : y ∈ ys) (h3 : y.a.num.toNat < 273) (h4 : y.b.num.toNat < 30) : (lA ys).getD y.a.num.toNat 0 ≠ 0 := by
  have hs : startW.1.length = 273 ∧ startW.2.1.length = 30 := by decide +kernel
  unfold lA
  exact getD_lensW (by rw [firstW_len]; decide) (by rw [firstW_len]; exact h3) ((foldW_mem ys startW y hs.1 hs.2 h3 h4).1 (.inl hy))
theorem lA_256 (ys : List Sy) : (lA ys).getD 256 0 ≠ 0 := by
  unfold lA
  exact getD_lensW (by rw [firstW_len]; decide) (by rw [firstW_len]; decide) (foldW_first ys)
theorem lB_pos {ys : List Sy} {y : Sy} (hy : y ∈ ys) (h3 : y.a.num.toNat < 273) (h4 : y.b.num.toNat < 30) (hm : y.m = true) : (lB ys).getD y.b.num.toNat 0 ≠ 0 := by
  have hs : startW.1.length = 273 ∧ startW.2.1.length = 30 := by decide +kernel
  obtain ⟨_, i2, i3⟩ := foldW_mem ys startW y hs.1 hs.2 h3 h4
  have h0 := i3 (.inl ⟨hm, hy⟩)
  unfold lB
  refine getD_lensW (by rw [secondW_len]; decide) (by rw [secondW_len]; exact h4) ?_
  unfold secondW
  rw [if_neg (by unfold foldW; omega)]
  exact i2 (.inl ⟨hm, hy⟩)
theorem lA_len (ys : List Sy) : (lA ys).length = 273 := by unfold lA; rw [lensW_length, firstW_len]
theorem lB_len (ys : List Sy) : (lB ys).length = 30 := by unfold lB; rw [lensW_length, secondW_len]
theorem blockT_back {ts : List Tok} (hR : rightL ts) (hby : ∀ t ∈ ts, 0 ≤ t.byte ∧ t.byte < 256) (hd : distOK 0 ts) {most : Int} (hm : (sizeT ts : Int) ≤ most) (Z : List Bool) :
    blockT (blockB (ts.map splitY) ++ Z) most = (ts, sizeT ts, (blockB (ts.map splitY)).length, 0) := by
  obtain ⟨ys, hys⟩ : ∃ ys, ts.map splitY = ys := ⟨_, rfl⟩
  have hY : ∀ y ∈ ys, 0 ≤ y.a.num ∧ y.a.num < 273 ∧ 0 ≤ y.b.num ∧ y.b.num < 30 := fun y hy => by
    rw [← hys] at hy
    obtain ⟨t, ht, rfl⟩ := List.mem_map.1 hy
    obtain ⟨_, h1, h2, _, h3, h4⟩ := join_split (hR.2 t ht) (hby t ht)
    exact ⟨h1, h2, h3, h4⟩
  have oka := lA_ok ys
  have okb := lB_ok (ys := ys) (fun y hy => by have := hY y hy; omega)
  have hla := lA_len ys
  have hlb := lB_len ys
  have h256 := lA_256 ys
  have hT : ∀ t ∈ ts, t.right ∧ (0 ≤ t.byte ∧ t.byte < 256) ∧ (lA ys).getD (splitY t).a.num.toNat 0 ≠ 0 ∧ ((splitY t).m = true → (lB ys).getD (splitY t).b.num.toNat 0 ≠ 0) := fun t ht => by
    have hm : splitY t ∈ ys := by rw [← hys]; exact List.mem_map_of_mem ht
    obtain ⟨h1, h2, h3, h4⟩ := hY _ hm
    exact ⟨hR.2 t ht, hby t ht, lA_pos hm (by omega) (by omega), lB_pos hm (by omega) (by omega)⟩
  rw [hys]
  obtain ⟨la, hA⟩ : ∃ x, lA ys = x := ⟨_, rfl⟩
  obtain ⟨lb, hB⟩ : ∃ x, lB ys = x := ⟨_, rfl⟩
  have hbl : blockB ys = putR la ++ putR lb ++ ys.flatMap (syB la lb) ++ codeBits (val la 256) (lenAt la 256) := by unfold blockB; rw [hA, hB]
  rw [hA] at oka hla h256 hT
  rw [hB] at okb hlb hT
  obtain ⟨S, hS⟩ : ∃ S, blockB ys ++ Z = S := ⟨_, rfl⟩
  have hS1 : S = [] ++ (putR la ++ (putR lb ++ (ys.flatMap (syB la lb) ++ (codeBits (val la 256) (lenAt la 256) ++ Z)))) := by rw [← hS, hbl]; simp
  have hS2 : S = putR la ++ (putR lb ++ (ys.flatMap (syB la lb) ++ (codeBits (val la 256) (lenAt la 256) ++ Z))) := by rw [hS1]; rfl
  have hS3 : S = (putR la ++ putR lb) ++ (ys.flatMap (syB la lb) ++ (codeBits (val la 256) (lenAt la 256) ++ Z)) := by rw [hS2]; simp
  have t1 := takeR_putQ oka.2.2.1 oka.1 oka.2.1 [] (putR lb ++ (ys.flatMap (syB la lb) ++ (codeBits (val la 256) (lenAt la 256) ++ Z)))
  rw [← hS1, List.length_nil, Nat.zero_add] at t1
  have t2 := takeR_putQ okb.2.2.1 okb.1 okb.2.1 (putR la) (ys.flatMap (syB la lb) ++ (codeBits (val la 256) (lenAt la 256) ++ Z))
  rw [← hS2] at t2
  have hC : codesT S 0 = (0, la, lb, (putR la).length + (putR lb).length) := by
    unfold codesT
    rw [t1]
    simp only
    rw [t2]
    simp only
    rw [if_neg (by omega), if_neg (by omega), if_neg (by omega), if_neg (by rintro (h | h); exact h (rightC_cast oka); exact h (rightC_cast okb))]
  have hlen : S.length = (blockB ys).length + Z.length := by rw [← hS, List.length_append]
  have hyl : ys.length = ts.length := by rw [← hys, List.length_map]
  have hg := goB_back oka okb hla hlb h256 Z (most := most) ts hT (S.length + 1) 0 [] (putR la ++ putR lb) (by
    have : ∀ l : List Sy, (∀ y ∈ l, 1 ≤ (syB la lb y).length) → l.length ≤ (l.flatMap (syB la lb)).length := by
      intro l
      induction l with
      | nil => intro _; simp
      | cons y l ih =>
        intro h
        have h1 := h y List.mem_cons_self
        have h2 := ih fun z hz => h z (List.mem_cons_of_mem _ hz)
        rw [List.flatMap_cons, List.length_append, List.length_cons]; omega
    have h1 := this ys fun y hy => by
      rw [← hys] at hy
      obtain ⟨t, ht, rfl⟩ := List.mem_map.1 hy
      obtain ⟨_, _, g3, _⟩ := hT t ht
      have g := hY (splitY t) (by rw [← hys]; exact List.mem_map_of_mem ht)
      unfold syB symB
      rw [List.length_append, List.length_append, codeBits_length]
      have : lenAt la (splitY t).a.num = la.getD (splitY t).a.num.toNat 0 := by unfold lenAt; rw [if_neg (by omega)]
      omega
    rw [hS3]
    simp only [List.length_append]
    omega) hd (by rw [Nat.zero_add]; exact hm)
  rw [hys, ← hS3] at hg
  rw [hS]
  unfold blockT
  rw [hC]
  simp only
  rw [if_neg (by omega), ← List.length_append, hg, hbl]
  simp only [List.nil_append, Nat.zero_add, List.length_append, Prod.mk.injEq, and_true, true_and]
end Go.Bn
end

section
set_option linter.unusedVariables false
set_option linter.unusedSimpArgs false
set_option maxHeartbeats 4000000
set_option maxRecDepth 20000
namespace Go.Bn
open Go Proofs
section
variable {P : Program} {E : Env} {hp : Heap} {cl : Cls} {d : Option Tmp} {ty : TypeId} {pos : String} {af : Array Edge} {g : Option (Nat × Bool)} {x : Operand} {t : TypeId}
theorem opl_litA {e sz b : Nat} {zs us : List Value} {ua : Array Value} (hx : ev E x = some (.agg ua)) (ht : sliceI P t = some (e, sz, b, zs)) (hn : Nat.ble (1 * sz) 16777216 = true) (hs : Nat.blt 0 (1 * sz) = true) (hc : sliceCells 1 sz zs [(0, .agg ua)] = some us.toArray) (hl : us.length = 1 * sz) :
    OpL P ⟨d, .buildSlice t 1 #[(0, x)], ty, pos, af, g⟩ E hp (fun u hp' => New (row e sz u us) hp hp') := by
  intro n a w ho hw K hK
  have hps : evP E (#[(0, x)] : Array (Nat × Operand)).toList = some [(0, .agg ua)] := by simp [evP, hx]
  refine opl_buildSlice hps ht hn hs hc n a w ho hw K fun v' w' hi ⟨h1, h2⟩ => hK v' w' hi ?_
  rw [h1, h2]
  exact new_row hp e sz 1 us hl (by simp only [maxLen]; omega)
end
theorem blockB_len {ys : List Sy} (hb : ∀ y ∈ ys, y.b.num.toNat < 30) : (blockB ys).length ≤ 7000 + 94 * ys.length := by
  have hA := lA_ok ys
  have hB := lB_ok hb
  have h1 := putR_len hA
  have h2 := putR_len hB
  have h3 := flat_bd (syB (lA ys) (lB ys)) 94 (syB_len hA hB) ys
  have h4 := lens_le hA 256
  rw [lA_len] at h1
  rw [lB_len] at h2
  unfold blockB
  simp only [List.length_append, codeBits_length]
  omega
theorem split_b30 {ts : List Tok} (hR : rightL ts) (hby : ∀ t ∈ ts, 0 ≤ t.byte ∧ t.byte < 256) : ∀ y ∈ ts.map splitY, y.b.num.toNat < 30 := fun y hy => by
  obtain ⟨t, ht, rfl⟩ := List.mem_map.1 hy
  have := splitY_ok (hR.2 t ht) (hby t ht)
  omega
theorem lives13 (h0 : Heap) : Ret Try.prog 31 [] h0 fun v h' => v = .bool true ∧ Ext h0 h' := by
  have hR : rightL [(⟨7, 0, 0⟩ : Tok)] := by decide
  have hby : ∀ t ∈ [(⟨7, 0, 0⟩ : Tok)], 0 ≤ t.byte ∧ t.byte < 256 := by decide
  have hbl := blockB_len (split_b30 hR hby)
  have hdis : distOK 0 [(⟨7, 0, 0⟩ : Tok)] := ⟨by decide, trivial⟩
  have hback := fun Z => blockT_back hR hby hdis (most := 1) (by decide) Z
  rw [List.length_map] at hbl
  obtain ⟨BL, hBL⟩ : ∃ BL, blockB ([(⟨7, 0, 0⟩ : Tok)].map splitY) = BL := ⟨_, rfl⟩
  rw [hBL] at hbl
  simp only [hBL] at hback
  have hbl : BL.length ≤ 7094 := by simpa using hbl
  refine ret_of_X Try.func31 rfl rfl fun w0 hw0 => ?_
  simp only [argE, Nat.zero_add, Nat.reduceAdd]
  refine X_seq ?_
  refine X_reg ?_
  refine XR_a (op_assign rfl) rfl rfl ?_
  refine XR_nil ?_
  refine X_seq ?_
  refine X_reg ?_
  refine XR_wa (opl_new rfl) rfl rfl rfl ?_
  rintro _ hp ⟨p1, rfl, hnew⟩
  have st := ((St.start h0).new hnew).wr0
  refine XR_nil ?_
  refine X_seq ?_
  refine X_reg ?_
  refine XR_a (op_build (ps := [(0, .int .u8 7)]) (cs := (tokV ⟨7, 0, 0⟩).toArray) rfl rfl) rfl rfl ?_
  refine XR_wa (opl_litA (us := tokV ⟨7, 0, 0⟩) rfl rfl rfl rfl (by kernel_rfl) rfl) rfl rfl rfl ?_
  rintro v2 hp2 hnew
  replace st := (st.new hnew).perm (List.Perm.swap _ _ _)
  obtain ⟨A2, n2, c2, rfl, hl2, _⟩ := st.row 1 rfl
  obtain rfl : n2 = 1 := by simp at hl2; omega
  refine XR_wa (opl_call (bput_spec (n := 1) (ts := [⟨7, 0, 0⟩]) st.here (fun h' rs hs => hs.rdM (List.mem_append_right _ List.mem_cons_self)) rfl (by omega) hby (by simp)) rfl (by kernel_rfl)) rfl rfl rfl ?_
  rintro _ hp3 ⟨rfl, st3⟩
  rw [if_pos hR, hBL] at st3
  rw [if_pos hR]
  replace st := st.trans st3
  rw [List.nil_append] at st
  clear st3
  refine XR_a (op_assign rfl) rfl rfl ?_
  refine XR_nil ?_
  refine X_seq ?_
  refine X_reg ?_
  refine XR_wa (opl_call (wbytes_spec st.here (by omega)) rfl (by kernel_rfl)) rfl rfl rfl ?_
  rintro v3 hp4 st4
  have hpk := bitsB_pack BL
  have hpkl := pack_length BL
  obtain ⟨pk, hpke⟩ : ∃ pk, pack BL = pk := ⟨_, rfl⟩
  rw [hpke] at st4 hpk hpkl
  obtain ⟨A3, n3, c3, rfl, hlen3, _, _, hrd3⟩ := st4.row 0 rfl
  rw [List.length_map, Nat.mul_one] at hlen3
  have hx4 : Ext h0 hp4 := st.low.trans (st4.low.mono st.low.size)
  refine XR_wa (opl_call (rnew_spec) rfl (by kernel_rfl)) rfl rfl rfl ?_
  rintro _ hp5 ⟨q, rfl, st5⟩
  refine XR_wa (opl_call (btake_spec (most := 1) st5.here (fun h' hl' => hrd3.ext (st5.low.trans hl')) hlen3 (by omega) (by simp only [inK]; omega)) rfl (by kernel_rfl)) rfl rfl rfl ?_
  rintro _ hp6 ⟨w, a', rfl, _, _, st6⟩
  rw [hpk, hback] at st6
  rw [hpk, hback]
  simp only at st6
  replace st6 := st5.trans st6
  obtain ⟨A6, n6, c6, rfl, hl6, _⟩ := st6.row0 1 rfl (by simp)
  obtain rfl : n6 = 1 := by simp at hl6; omega
  refine XR_a (op_move rfl) rfl rfl ?_
  refine XR_a (op_extract rfl rfl) rfl rfl ?_
  refine XR_a (op_extract rfl rfl) rfl rfl ?_
  refine XR_a (op_assign rfl) rfl rfl ?_
  refine XR_a (op_assign rfl) rfl rfl ?_
  refine XR_nil ?_
  refine X_seq ?_
  refine X_reg ?_
  refine XR_a (op_move rfl) rfl rfl ?_
  refine XR_a (op_eql rfl rfl) rfl rfl ?_
  refine XR_as (.bool true) (congrArg Value.bool (decide_eq_true rfl)) ?_
  refine XR_a (op_move rfl) rfl rfl ?_
  refine XR_a (op_move rfl) rfl rfl ?_
  refine XR_a (op_eql rfl rfl) rfl rfl ?_
  refine XR_as (.bool true) (congrArg Value.bool (decide_eq_true rfl)) ?_
  refine XR_a (op_pick_t rfl rfl) rfl rfl ?_
  refine XR_a (op_move rfl) rfl rfl ?_
  refine XR_a (op_move rfl) rfl rfl ?_
  refine XR_a (op_len rfl rfl rfl) rfl rfl ?_
  refine XR_a (op_eql rfl rfl) rfl rfl ?_
  refine XR_as (.bool true) (congrArg Value.bool (decide_eq_true rfl)) ?_
  refine XR_a (op_pick_t rfl rfl) rfl rfl ?_
  refine XR_a (op_move rfl) rfl rfl ?_
  refine XR_a (op_move rfl) rfl rfl ?_
  refine XR_a (op_index (i := 0) rfl rfl rfl (by omega)) rfl rfl ?_
  first | refine XR_a (op_field0 rfl rfl) rfl rfl ?_ | refine XR_a (op_fieldn rfl rfl) rfl rfl ?_
  obtain ⟨_, _, he6, hc6⟩ := (st6.rdS 1 rfl).2.at_ (by simp)
  cases he6
  refine XR_a (op_ld (hc6 0 (.int .u8 7) rfl) rfl rfl rfl) rfl rfl ?_
  refine XR_a (op_eql rfl rfl) rfl rfl ?_
  refine XR_as (.bool true) (congrArg Value.bool (decide_eq_true rfl)) ?_
  refine XR_a (op_pick_t rfl rfl) rfl rfl ?_
  refine XR_a (op_assign rfl) rfl rfl ?_
  refine XR_nil ?_
  refine X_ret (.cons (.tmp rfl) .nil) ?_
  exact ⟨rfl, Ext.trans hx4 st6.low⟩
end Go.Bn
end

section
set_option linter.unusedVariables false
set_option linter.unusedSimpArgs false
set_option maxHeartbeats 4000000
set_option maxRecDepth 20000
namespace Go.Bn
open Go Proofs
theorem blockWeights_ret {n c : Nat} {A : Option Addr} {ts : List Tok} {h0 : Heap} (hr : Rd h0 A (ts.flatMap tokV)) (hl : ts.length = n) (hby : ∀ t ∈ ts, 0 ≤ t.byte ∧ t.byte < 256) :
    Ret Try.prog 9 [.slice A n c] h0 fun v h' => v = .bool true ∧ Ext h0 h' := by
  refine ret_of_X Try.func9 rfl rfl fun w0 hw0 => ?_
  simp only [argE, Nat.zero_add, Nat.reduceAdd]
  refine X_seq ?_
  refine X_reg ?_
  refine XR_a (op_assign rfl) rfl rfl ?_
  refine XR_nil ?_
  refine X_seq ?_
  refine X_seq ?_
  refine X_reg ?_
  refine XR_a (op_move rfl) rfl rfl ?_
  refine XR_a (op_len rfl rfl rfl) rfl rfl ?_
  refine XR_a (op_gtr rfl rfl) rfl rfl ?_
  refine XR_nil ?_
  refine X_if rfl (fun h => ?_) (fun h => ?_)
  · refine X_seq ?_
    refine X_reg ?_
    refine XR_wa (opl_call (lives13 _) rfl (by kernel_rfl)) rfl rfl rfl ?_
    rintro _ hp ⟨rfl, hx⟩
    refine XR_a (op_assign rfl) rfl rfl ?_
    refine XR_nil ?_
    refine X_ret (.cons (.tmp rfl) .nil) ?_
    exact ⟨rfl, hx⟩
  · refine X_skip ?_
    refine X_seq ?_
    refine X_reg ?_
    refine XR_a (op_move rfl) rfl rfl ?_
    refine XR_wa (opl_call (bweights_spec hr hl (by omega) hby) rfl (by kernel_rfl)) rfl rfl rfl ?_
    rintro _ hp1 ⟨w1, w2, rfl, hyes, hno⟩
    refine XR_a (op_move rfl) rfl rfl ?_
    by_cases hR : rightL ts
    · have st := hyes hR
      rw [decide_eq_true hR]
      clear hyes hno
      refine XR_a (op_extract rfl rfl) rfl rfl ?_
      refine XR_a (op_extract rfl rfl) rfl rfl ?_
      refine XR_a (op_extract rfl rfl) rfl rfl ?_
      refine XR_a (op_assign rfl) rfl rfl ?_
      refine XR_a (op_assign rfl) rfl rfl ?_
      refine XR_a (op_assign rfl) rfl rfl ?_
      refine XR_nil ?_
      refine X_seq ?_
      refine X_seq ?_
      refine X_reg ?_
      refine XR_a (op_move rfl) rfl rfl ?_
      refine XR_wa (opl_call (right13_ref (hr.ext st.low) hl (by omega)) rfl (by kernel_rfl)) rfl rfl rfl ?_
      rintro _ hp2 ⟨rfl, hx2⟩
      rw [decide_eq_true hR]
      replace st := st.ext hx2
      first | refine XR_a (op_notd rfl) rfl rfl ?_ | refine XR_a (op_not rfl) rfl rfl ?_
      refine XR_as (.bool false) rfl ?_
      refine XR_nil ?_
      refine X_else rfl ?_
      refine X_skip ?_
      refine X_seq ?_
      refine X_reg ?_
      refine XR_a (op_move rfl) rfl rfl ?_
      refine XR_wa (opl_call (weights13_ref (hr.ext st.low) hl hR hby) rfl (by kernel_rfl)) rfl rfl rfl ?_
      rintro _ hp3 ⟨u1, u2, rfl, st3⟩
      have hlo := st3.low
      replace st := st.join st3
      obtain ⟨B1, m1, d1, rfl, hm1, _, _, hs1⟩ := st.row 0 rfl
      obtain ⟨B2, m2, d2, rfl, hm2, _, _, hs2⟩ := st.row 1 rfl
      obtain ⟨A1, n1, c1, rfl, hn1, _, _, hr1⟩ := st.row 2 rfl
      obtain ⟨A2, n2, c2, rfl, hn2, _, _, hr2⟩ := st.row 3 rfl
      rw [List.length_map, Nat.mul_one, firstW_len] at hm1 hn1
      rw [List.length_map, Nat.mul_one, secondW_len] at hm2 hn2
      rw [nV_iV] at hs1 hs2 hr1 hr2
      refine XR_a (op_move rfl) rfl rfl ?_
      refine XR_a (op_extract rfl rfl) rfl rfl ?_
      refine XR_a (op_extract rfl rfl) rfl rfl ?_
      refine XR_a (op_assign rfl) rfl rfl ?_
      refine XR_a (op_assign rfl) rfl rfl ?_
      refine XR_nil ?_
      refine X_seq ?_
      refine X_reg ?_
      refine XR_a (op_move rfl) rfl rfl ?_
      refine XR_a (op_move rfl) rfl rfl ?_
      refine XR_a (op_move rfl) rfl rfl ?_
      refine XR_a (op_move rfl) rfl rfl ?_
      refine XR_wa (opl_call (ints_ref hr1 (by rw [List.length_map, firstW_len]; exact hn1) hs1 (by rw [List.length_map, firstW_len]; exact hm1) (by omega)) rfl (by kernel_rfl)) rfl rfl rfl ?_
      rintro _ _ ⟨rfl, rfl⟩
      rw [decide_eq_true rfl]
      refine XR_a (op_pick_t rfl rfl) rfl rfl ?_
      refine XR_a (op_move rfl) rfl rfl ?_
      refine XR_a (op_move rfl) rfl rfl ?_
      refine XR_a (op_move rfl) rfl rfl ?_
      refine XR_wa (opl_call (ints_ref hr2 (by rw [List.length_map, secondW_len]; exact hn2) hs2 (by rw [List.length_map, secondW_len]; exact hm2) (by omega)) rfl (by kernel_rfl)) rfl rfl rfl ?_
      rintro _ _ ⟨rfl, rfl⟩
      rw [decide_eq_true rfl]
      refine XR_a (op_pick_t rfl rfl) rfl rfl ?_
      refine XR_a (op_move rfl) rfl rfl ?_
      refine XR_wa (opl_call (lives13 _) rfl (by kernel_rfl)) rfl rfl rfl ?_
      rintro _ hp ⟨rfl, hx⟩
      refine XR_a (op_pick_t rfl rfl) rfl rfl ?_
      refine XR_a (op_assign rfl) rfl rfl ?_
      refine XR_nil ?_
      refine X_ret (.cons (.tmp rfl) .nil) ?_
      exact ⟨rfl, Ext.trans st.low hx⟩
    · obtain ⟨rfl, rfl, hx1⟩ := hno hR
      rw [decide_eq_false hR]
      clear hyes hno
      refine XR_a (op_extract rfl rfl) rfl rfl ?_
      refine XR_a (op_extract rfl rfl) rfl rfl ?_
      refine XR_a (op_extract rfl rfl) rfl rfl ?_
      refine XR_a (op_assign rfl) rfl rfl ?_
      refine XR_a (op_assign rfl) rfl rfl ?_
      refine XR_a (op_assign rfl) rfl rfl ?_
      refine XR_nil ?_
      refine X_seq ?_
      refine X_seq ?_
      refine X_reg ?_
      refine XR_a (op_move rfl) rfl rfl ?_
      refine XR_wa (opl_call (right13_ref (hr.ext hx1) hl (by omega)) rfl (by kernel_rfl)) rfl rfl rfl ?_
      rintro _ hp2 ⟨rfl, hx2⟩
      rw [decide_eq_false hR]
      first | refine XR_a (op_notd rfl) rfl rfl ?_ | refine XR_a (op_not rfl) rfl rfl ?_
      refine XR_as (.bool true) rfl ?_
      refine XR_nil ?_
      refine X_then rfl ?_
      refine X_seq ?_
      refine X_reg ?_
      refine XR_a (op_move rfl) rfl rfl ?_
      first | refine XR_a (op_notd rfl) rfl rfl ?_ | refine XR_a (op_not rfl) rfl rfl ?_
      refine XR_as (.bool true) rfl ?_
      refine XR_a (op_move rfl) rfl rfl ?_
      refine XR_a (op_move rfl) rfl rfl ?_
      refine XR_a (op_len rfl rfl rfl) rfl rfl ?_
      refine XR_a (op_eql rfl rfl) rfl rfl ?_
      refine XR_as (.bool true) (congrArg Value.bool (decide_eq_true rfl)) ?_
      refine XR_a (op_pick_t rfl rfl) rfl rfl ?_
      refine XR_a (op_move rfl) rfl rfl ?_
      refine XR_a (op_move rfl) rfl rfl ?_
      refine XR_a (op_len rfl rfl rfl) rfl rfl ?_
      refine XR_a (op_eql rfl rfl) rfl rfl ?_
      refine XR_as (.bool true) (congrArg Value.bool (decide_eq_true rfl)) ?_
      refine XR_a (op_pick_t rfl rfl) rfl rfl ?_
      refine XR_a (op_move rfl) rfl rfl ?_
      refine XR_wa (opl_call (lives13 _) rfl (by kernel_rfl)) rfl rfl rfl ?_
      rintro _ hp ⟨rfl, hx⟩
      refine XR_a (op_pick_t rfl rfl) rfl rfl ?_
      refine XR_a (op_assign rfl) rfl rfl ?_
      refine XR_nil ?_
      refine X_ret (.cons (.tmp rfl) .nil) ?_
      exact ⟨rfl, Ext.trans (Ext.trans hx1 hx2) hx⟩
end Go.Bn
end

section
set_option linter.unusedVariables false
namespace Go.Bn
open Go Go.ChangeShapes Go.WideShapes Go.Deep
theorem okS_toks {hp : Heap} {d : Nat} {v : Value} (h : okS hp d (.sl [.i .u8, .i .i64, .i .i64]) v) :
    ∃ (A : Option Addr) (n c : Nat) (xs : List Tok), v = .slice A n c ∧ n ≤ c ∧ c ≤ maxLen ∧ xs.length = n ∧ Rd hp A (xs.flatMap tokV) ∧ ∀ x ∈ xs, 0 ≤ x.byte ∧ x.byte < 256 := by
  cases d with
  | zero => exact h.elim
  | succ d =>
    obtain ⟨A, n, c, rfl, h1, h2, ll, h3, h4, h5⟩ := h
    have key : ∀ ll : List (List Value), (∀ x ∈ ll, all2 (okS hp d) [.i .u8, .i .i64, .i .i64] x) → ∃ xs : List Tok, xs.length = ll.length ∧ ll.flatten = xs.flatMap tokV ∧ ∀ x ∈ xs, 0 ≤ x.byte ∧ x.byte < 256 := by
      intro ll
      induction ll with
      | nil => intro _; exact ⟨[], rfl, rfl, by simp⟩
      | cons x r ih =>
        intro hx
        obtain ⟨xs, e1, e2, e3⟩ := ih fun y hy => hx y (List.mem_cons_of_mem _ hy)
        obtain ⟨v1, r1, rfl, s1, h1⟩ := all2_cons (hx x List.mem_cons_self)
        obtain ⟨v2, r2, rfl, s2, h2⟩ := all2_cons h1
        obtain ⟨v3, r3, rfl, s3, h3⟩ := all2_cons h2
        obtain rfl := all2_nil h3
        obtain ⟨a, rfl, ha⟩ := okS_i s1
        obtain ⟨b, rfl, _⟩ := okS_i s2
        obtain ⟨c, rfl, _⟩ := okS_i s3
        simp only [inK] at ha
        refine ⟨⟨a, b, c⟩ :: xs, by simp [e1], by rw [List.flatten_cons, e2, List.flatMap_cons], ?_⟩
        intro y hy
        rcases List.mem_cons.1 hy with rfl | hy
        · exact ⟨by simp only; omega, by simp only; omega⟩
        · exact e3 y hy
    obtain ⟨xs, e1, e2, e3⟩ := key ll h5
    exact ⟨A, n, c, xs, rfl, h1, h2, by omega, by rw [← e2]; exact h4, e3⟩
end Go.Bn
end
