/- The contract of runs.Put. -/
import Derived.Test.YtdiglnhhmbhhjaaParts
import Derived.Test.YtdiglnhhmbhhjaaPRuns2
import Derived.Test.YtdiglnhhmbhhjaaWeigh3
import Derived.Test.YtdiglnhhmbhhjaaBits
set_option linter.unusedVariables false
set_option linter.unusedSimpArgs false
set_option maxHeartbeats 4000000
set_option maxRecDepth 20000
namespace Go.Bn
open Go Proofs

theorem St.reF {B : Nat} {h0 hp : Heap} (rs : List Res) (n : Nat) {F : List Res} (s : St B h0 hp (rs ++ F)) (idx : List Nat) (h : idx.Perm (List.range n)) (hn : rs.length = n := by rfl) : St B h0 hp (idx.map (getR rs) ++ F) := by
  subst hn
  have e := getR_range rs
  have hp := h.map (getR rs)
  rw [e] at hp
  exact s.perm (hp.symm.append_right F)
theorem lenAt_cast (ls : List Nat) (x : Nat) : lenAt ls (x : Int) = ls.getD x 0 := by unfold lenAt; rw [if_neg (by omega), Int.toNat_natCast]
def putE (li : List Int) : Nat := if li.length < 1 ∨ 320 < li.length then 5 else if ∀ x ∈ li, 0 ≤ x ∧ x ≤ 15 then 0 else 1
noncomputable def putL (li : List Int) : List Bool := if putE li = 0 then putR (li.map Int.toNat) else []

theorem rput_spec {B p n c : Nat} {A : Option Addr} {li : List Int} {bs : List Bool} {F : List Res} {h0 : Heap} (st0 : St B h0 h0 (wrR p bs :: F)) (hrB : ∀ h', Low B h0 h' → Rd h' A (li.map iV)) (hl : li.length = n) (hn : n ≤ 17592186044416) (hbs : bs.length ≤ 1048576) :
    Ret Try.prog 46 [.pointer (some ⟨p, 0, none⟩), .slice A n c] h0 fun v h' => v = nV (putE li) ∧ St B h0 h' (wrR p (bs ++ putL li) :: F) := by
  refine ret_of_X Try.func46 rfl rfl fun w0 hw0 => ?_
  simp only [argE, Nat.zero_add, Nat.reduceAdd]
  refine X_seq ?_
  refine X_reg ?_
  refine XR_wa (opl_bx (cs := [.pointer (some ⟨p, 0, none⟩)]) rfl rfl) rfl rfl rfl ?_
  rintro _ hp ⟨p2, rfl, hnew⟩
  have st := st0.new hnew
  refine XR_a (op_assign rfl) rfl rfl ?_
  refine XR_nil ?_
  refine X_seq ?_
  refine X_block ?_
  refine X_seq ?_
  refine X_reg ?_
  refine XR_a (op_move rfl) rfl rfl ?_
  refine XR_a (op_len rfl rfl rfl) rfl rfl ?_
  refine XR_a (op_lss rfl rfl) rfl rfl ?_
  refine XR_a (op_move rfl) rfl rfl ?_
  refine XR_if 21 rfl (fun h => ?_) (fun h => ?_)
  · have h21 := h
    refine XR_no rfl rfl ?_
    refine XR_no rfl rfl ?_
    refine XR_no rfl rfl ?_
    refine XR_a (op_pick_t rfl rfl) rfl rfl ?_
    refine XR_a (op_assign rfl) rfl rfl ?_
    refine XR_nil ?_
    refine X_then rfl ?_
    refine X_seq ?_
    refine X_reg ?_
    refine XR_a (op_assign rfl) rfl rfl ?_
    refine XR_nil ?_
    refine X_ret (.cons (.tmp rfl) .nil) ?_
    have he : putE li = 5 := by unfold putE; rw [if_pos (by omega)]
    unfold putL
    rw [he, if_neg (by omega), List.append_nil]
    exact ⟨rfl, st.tail⟩
  · have h21 := h
    refine XR_a (op_move rfl) rfl rfl ?_
    refine XR_a (op_len rfl rfl rfl) rfl rfl ?_
    refine XR_a (op_gtr rfl rfl) rfl rfl ?_
    refine XR_a (op_pick_f rfl rfl) rfl rfl ?_
    refine XR_a (op_assign rfl) rfl rfl ?_
    refine XR_nil ?_
    refine X_if rfl (fun h => ?_) (fun h => ?_)
    · refine X_seq ?_
      refine X_reg ?_
      refine XR_a (op_assign rfl) rfl rfl ?_
      refine XR_nil ?_
      refine X_ret (.cons (.tmp rfl) .nil) ?_
      have he : putE li = 5 := by unfold putE; rw [if_pos (by omega)]
      unfold putL
      rw [he, if_neg (by omega), List.append_nil]
      exact ⟨rfl, st.tail⟩
    · refine X_seq ?_
      refine X_reg ?_
      refine XR_a (op_ld (st.cell 0 (i := 0) rfl rfl) rfl rfl rfl) rfl rfl ?_
      refine XR_a (op_ptr_nil rfl rfl rfl) rfl rfl ?_
      refine XR_a (op_move rfl) rfl rfl ?_
      refine XR_a (op_move rfl) rfl rfl ?_
      refine XR_wa (opl_call (rright_spec (hrB _ st.low) hl hn) rfl (by kernel_rfl)) rfl rfl rfl ?_
      rintro _ _ ⟨rfl, rfl⟩
      first | refine XR_a (op_notd rfl) rfl rfl ?_ | refine XR_a (op_not rfl) rfl rfl ?_
      refine XR_a (op_pick_f rfl rfl) rfl rfl ?_
      refine XR_a (op_assign rfl) rfl rfl ?_
      refine XR_nil ?_
      refine X_if rfl (fun h => ?_) (fun h => ?_)
      · refine X_seq ?_
        refine X_reg ?_
        refine XR_a (op_assign rfl) rfl rfl ?_
        refine XR_nil ?_
        refine X_ret (.cons (.tmp rfl) .nil) ?_
        have he : putE li = 1 := by unfold putE; rw [if_neg (by omega), if_neg h]
        unfold putL
        rw [he, if_neg (by omega), List.append_nil]
        exact ⟨rfl, st.tail⟩
      · have hb := Decidable.not_not.1 h
        have he : putE li = 0 := by unfold putE; rw [if_neg (by omega), if_pos hb]
        have hpl : putL li = putR (li.map Int.toNat) := by unfold putL; rw [if_pos he]
        have hb2 : ∀ x ∈ li.map Int.toNat, x ≤ 15 := fun x hx => by obtain ⟨y, hy, rfl⟩ := List.mem_map.1 hx; have := hb y hy; omega
        have hrN : ∀ h', Low B h0 h' → Rd h' A ((li.map Int.toNat).map nV) := fun h' hl' => by rw [nV_iV, toNat_map fun x hx => (hb x hx).1]; exact hrB h' hl'
        have hlN : (li.map Int.toNat).length = n := by rw [List.length_map]; exact hl
        rw [he, hpl]
        obtain ⟨ls, hls⟩ : ∃ ls, li.map Int.toNat = ls := ⟨_, rfl⟩
        rw [hls] at hb2 hrN hlN
        rw [hls]
        have hpm := partsL_mem hb2
        have hplen := partsL_len ls
        have hok := plens_ok hb2 (by omega)
        have h19 := plens_len ls
        refine X_skip ?_
        refine X_blk ?_
        refine X_seq ?_
        refine X_reg ?_
        refine XR_wa (opl_mk (n := 19) (by omega) rfl rfl rfl) rfl rfl rfl ?_
        rintro v hp hnew
        replace st := st.new hnew
        obtain ⟨go, no, co, rfl, hno, _⟩ := st.row0 0 rfl (by rw [List.length_replicate]; omega)
        obtain rfl : no = 19 := by simpa using hno.symm
        rw [show List.replicate 19 (Value.int .i64 0) = (pcnt []).map nV by rw [pcnt_nil, List.map_replicate]; rfl] at st
        refine XR_wa (opl_new rfl) rfl rfl rfl ?_
        rintro _ hp ⟨p5, rfl, hnew⟩
        replace st := st.new hnew
        refine XR_wn (opl_store_pt st 0 rfl rfl rfl rfl rfl (rfl)) rfl rfl fun _ hp st => ?_
        simp only [List.set_cons_zero, List.set_cons_succ] at st
        refine XR_nil ?_
        refine X_seq ?_
        refine X_seq ?_
        refine X_reg ?_
        refine XR_a (op_move rfl) rfl rfl ?_
        refine XR_wa (opl_call (rparts_spec) rfl (by kernel_rfl)) rfl rfl rfl ?_
        rintro _ hp3 ⟨pp, rfl, st3⟩
        replace st := st.join st3
        simp only [List.cons_append, List.nil_append] at st
        refine XR_nil ?_
        refine X_block ?_
        refine X_rangeS st rfl rfl (by kernel_rfl) fun fn tmps L1 y1 d1 hp1 hL1 hok1 hx1 st1 => ?_
        obtain ⟨JR, hJR⟩ : ∃ JR : List (Nat × Nat) → List Res, JR = fun s => [obj y1 (L1 .ready none), pt p5 49 [.slice (some ⟨go, 0, none⟩) 19 co], Bn.row 3 1 (.slice (some ⟨go, 0, none⟩) 19 co) ((pcnt s).map nV)] := ⟨_, rfl⟩
        have st2 := St.reF [_, _, _, _, _] 5 st1 [2, 0, 3, 4, 1] (by decide)
        simp only [List.map_cons, List.map_nil, getR, List.cons_append, List.nil_append] at st2
        have st11 : St B h0 hp1 (pt pp 49 [.slice A n c] :: (JR [] ++ (obj d1 (.deferred (some [])) :: pt p2 72 [.pointer (some ⟨p, 0, none⟩)] :: wrR p bs :: F))) := by rw [hJR]; exact st2
        refine Ret.mono (parts_iter JR st11.here (fun h' hl' => hrN h' (st11.low.trans hl')) hlN (by omega) ?_) ?_
        · intro s x r F' h hlow hsP st2
          subst hL1
          subst hJR
          simp only [List.cons_append, List.nil_append] at st2
          have hx19 := (hpm x (by rw [← hsP]; simp)).1
          have hsl : s.length < (partsL ls 0).length := by rw [← hsP]; simp
          have hcl := pcnt_le s
          have hog := pcnt_get (s := s) hx19
          have hcx : (s.map (·.1)).count x.1 ≤ s.length := hcl _ (List.mem_of_getElem? hog)
          refine rret_of_X (st2.obj_at 0 rfl) hok1 rfl rfl fun w0 hw0 => ?_
          simp only [penv]
          refine X_reg ?_
          refine XR_wa (opl_new rfl) rfl rfl rfl ?_
          rintro _ hp ⟨p6, rfl, hnew⟩
          have st := st2.new hnew
          refine XR_wn (opl_store_whole (us := pC2 x) st 0 rfl rfl rfl rfl rfl (one_pC2 x) rfl) rfl rfl fun _ hp st => ?_
          simp only [List.set_cons_zero] at st
          refine XR_nil ?_
          refine X_begin (st.obj_at 1 rfl) ?_
          replace st := st.loop 1 .busy none rfl
          simp only [List.set_cons_zero, List.set_cons_succ] at st
          obtain ⟨_, _, he8, hc8⟩ := (st.rdS 3 rfl).2.at_ (by rw [List.length_map, pcnt_len]; omega)
          cases he8
          have hov := hc8 _ _ (map_get_nV hog)
          refine X_block ?_
          refine X_reg ?_
          refine XR_a (op_ld (st.cell 2 (i := 0) rfl rfl) rfl rfl rfl) rfl rfl ?_
          first | refine XR_a (op_field0 rfl rfl) rfl rfl ?_ | refine XR_a (op_fieldn rfl rfl) rfl rfl ?_
          refine XR_a (op_ld (st.cell 0 (i := 0) rfl rfl) rfl rfl rfl) rfl rfl ?_
          first | refine XR_a (op_index1 rfl rfl rfl (by omega)) rfl rfl ?_ | refine XR_a (op_index rfl rfl rfl (by omega)) rfl rfl ?_
          refine XR_a (op_ld (hov) rfl rfl rfl) rfl rfl ?_
          first | refine XR_a (op_addN (n := 1) rfl rfl (by simp only [inK]; omega)) rfl rfl ?_ | refine XR_a (op_addI rfl rfl (by simp only [inK]; omega)) rfl rfl ?_ | refine XR_a (op_add rfl rfl) rfl rfl ?_
          first | refine XR_a (op_index1 rfl rfl rfl (by omega)) rfl rfl ?_ | refine XR_a (op_index rfl rfl rfl (by omega)) rfl rfl ?_
          refine XR_wn (opl_store_row (v := nV ((s.map (·.1)).count x.1 + 1)) st 3 rfl rfl rfl (by rw [List.length_map, pcnt_len]; exact hx19) rfl rfl) rfl rfl fun _ hp st => ?_
          simp only [List.set_cons_zero, List.set_cons_succ] at st
          rw [map_set_nV, pcnt_set] at st
          refine XR_nil ?_
          refine X_blk ?_
          refine X_rnd (st.obj_at 1 rfl) ⟨rfl, ?_⟩
          replace st := st.loop 1 .ready none rfl
          simp only [List.set_cons_zero, List.set_cons_succ] at st
          exact st.tail
        rintro _ h' st3
        subst hJR
        simp only [List.cons_append, List.nil_append] at st3
        refine .inl ⟨_, st11.trans st3, fun hp3 st4 => ?_⟩
        have st := st4
        have hrdP := (st.rdS 2 rfl).2
        rw [nV_iV] at hrdP
        have hbW : boundedB 1073741824 ((pcnt (partsL ls 0)).map fun n : Nat => (n : Int)) := by
          refine ⟨by rw [List.length_map, pcnt_len]; omega, fun x hx => ?_⟩
          obtain ⟨y, hy, rfl⟩ := List.mem_map.1 hx
          have := pcnt_le _ y hy; omega
        have hlI : lensI ((pcnt (partsL ls 0)).map fun n : Nat => (n : Int)) = plens ls := by
          unfold lensI
          rw [if_pos (errW_zero.2 hbW), cast_toNat]; rfl
        have hRC : rightC ((plens ls).map fun n : Nat => (n : Int)) := by
          refine ⟨by rw [List.length_map, h19]; omega, ⟨by rw [List.length_map, h19]; omega, fun x hx => ?_⟩, by rw [cast_toNat]; exact hok.2.2.2⟩
          obtain ⟨y, hy, rfl⟩ := List.mem_map.1 hx
          have := hok.2.2.1 y hy; omega
        refine X_blk ?_
        refine X_seq ?_
        refine X_reg ?_
        refine XR_a (op_ld (st.cell 1 (i := 0) rfl rfl) rfl rfl rfl) rfl rfl ?_
        refine XR_wa (opl_call (lengths_spec hrdP (by rw [List.length_map, pcnt_len]) (by omega)) rfl (by kernel_rfl)) rfl rfl rfl ?_
        rintro _ hp5 ⟨v7, rfl, st5⟩
        rw [hlI] at st5
        obtain ⟨A7, n7, c7, rfl, hl7, _, _, hrd7⟩ := st5.row 0 rfl
        rw [List.length_map, h19, Nat.mul_one] at hl7
        obtain rfl : n7 = 19 := by omega
        replace st := st.join st5
        simp only [List.cons_append, List.nil_append] at st
        have hrd7I := hrd7
        rw [nV_iV] at hrd7I
        refine XR_a (op_move rfl) rfl rfl ?_
        refine XR_a (op_extract rfl rfl) rfl rfl ?_
        refine XR_a (op_extract rfl rfl) rfl rfl ?_
        refine XR_a (op_assign rfl) rfl rfl ?_
        refine XR_a (op_assign rfl) rfl rfl ?_
        refine XR_nil ?_
        refine X_seq ?_
        refine X_reg ?_
        refine XR_a (op_move rfl) rfl rfl ?_
        refine XR_wa (opl_call (cnew_spec hrd7I (by rw [List.length_map, h19]) (by omega)) rfl (by kernel_rfl)) rfl rfl rfl ?_
        rintro _ hp6 ⟨w, rfl, hx6, hy6, _⟩
        obtain ⟨pc, rfl, sc⟩ := hy6 hRC
        rw [cast_toNat] at sc
        replace st := st.join sc
        simp only [List.cons_append, List.nil_append] at st
        refine XR_a (op_move rfl) rfl rfl ?_
        refine XR_a (op_extract rfl rfl) rfl rfl ?_
        refine XR_a (op_extract rfl rfl) rfl rfl ?_
        refine XR_wa (opl_new rfl) rfl rfl rfl ?_
        rintro _ hp ⟨p9, rfl, hnew⟩
        replace st := st.new hnew
        refine XR_wn (opl_store_pt st 0 rfl rfl rfl rfl rfl (rfl)) rfl rfl fun _ hp st => ?_
        simp only [List.set_cons_zero, List.set_cons_succ] at st
        refine XR_a (op_assign rfl) rfl rfl ?_
        refine XR_nil ?_
        refine X_seq ?_
        replace st := St.reF [_, _, _, _, _, _, _, _, _] 9 st [3, 4, 5, 8, 1, 7, 0, 2, 6] (by decide)
        simp only [List.map_cons, List.map_nil, getR, List.cons_append, List.nil_append] at st
        replace st := st.tail.tail.tail
        refine X_reg ?_
        refine XR_a (op_ld (st.cell 2 (i := 0) rfl rfl) rfl rfl rfl) rfl rfl ?_
        refine XR_a (op_move rfl) rfl rfl ?_
        refine XR_a (op_len rfl rfl rfl) rfl rfl ?_
        refine XR_a (op_convI (k' := .u32) rfl rfl (by simp only [inK]; omega)) rfl rfl ?_
        refine XR_wa (opl_call (put_spec (n := n) (k := 9) st.here (by omega) (by omega)) rfl (by kernel_rfl)) rfl rfl rfl ?_
        rintro _ hp7 ⟨rfl, st7⟩
        rw [show wd 32 9 = 9 from rfl] at st7
        replace st := st.trans st7
        refine XR_nil ?_
        refine X_seq ?_
        refine X_seq ?_
        refine X_reg ?_
        refine XR_a (op_move rfl) rfl rfl ?_
        refine XR_a (op_len rfl rfl rfl) rfl rfl ?_
        refine XR_a (op_move rfl) rfl rfl ?_
        refine XR_nil ?_
        refine X_block ?_
        have hh0 : bs ++ bitsN 9 n = bs ++ putHead ls 0 := by unfold putHead; rw [hlN]; simp
        rw [hh0] at st
        refine X_loop (fun i => 19 - i) (fun i => [(1, .slice A n c), (2, .pointer (some ⟨p2, 0, none⟩)), (9, .pointer (some ⟨p9, 0, none⟩)), (60, .slice A7 19 c7), (61, nV 19), (62, nV i)])
          (fun (i : Nat) hp => i ≤ 19 ∧ St B h0 hp (wrR p (bs ++ putHead ls i) :: codeR pc (plens ls) :: pt p2 72 [.pointer (some ⟨p, 0, none⟩)] :: pt p9 123 [.pointer (some ⟨pc, 0, none⟩)] :: Bn.row 3 1 (.slice A7 19 c7) ((plens ls).map nV) :: obj d1 (.deferred (some [])) :: F))
          0 (.cons rfl (.cons rfl (.cons rfl (.cons rfl (.cons rfl (.cons rfl (.nil _))))))) ⟨Nat.zero_le _, st⟩ ?_
        clear st st7
        rintro i hp8 ⟨hi, st⟩
        refine X_seq ?_
        refine X_reg ?_
        refine XR_a (op_lss rfl rfl) rfl rfl ?_
        refine XR_nil ?_
        refine X_seq ?_
        refine X_if rfl (fun h => ?_) (fun h => ?_)
        · obtain ⟨g7, o7, rfl, hc7⟩ := (st.rdS 4 rfl).2.at_ (by rw [List.length_map]; omega)
          have hli := hc7 i (nV ((plens ls).getD i 0)) (by rw [List.getElem?_map, List.getElem?_eq_getElem (by omega), getD_eq (by omega)]; rfl)
          have hl15 : (plens ls).getD i 0 ≤ 15 := by rw [getD_eq (by omega)]; exact hok.2.2.1 _ (List.getElem_mem _)
          have hhl := putHead_len ls i
          refine X_skip ?_
          refine X_seq ?_
          refine X_block ?_
          refine X_seq ?_
          refine X_reg ?_
          first | refine XR_a (op_index1 rfl rfl rfl (by omega)) rfl rfl ?_ | refine XR_a (op_index rfl rfl rfl (by omega)) rfl rfl ?_
          refine XR_a (op_ld (hli) rfl rfl rfl) rfl rfl ?_
          refine XR_a (op_assign rfl) rfl rfl ?_
          refine XR_nil ?_
          refine X_reg ?_
          refine XR_a (op_ld (st.cell 2 (i := 0) rfl rfl) rfl rfl rfl) rfl rfl ?_
          refine XR_a (op_move rfl) rfl rfl ?_
          refine XR_a (op_convI (k' := .u32) rfl rfl (by simp only [inK]; omega)) rfl rfl ?_
          refine XR_wa (opl_call (put_spec (n := (plens ls).getD i 0) (k := 4) st.here (by omega) (by rw [List.length_append]; omega)) rfl (by kernel_rfl)) rfl rfl rfl ?_
          rintro _ hp9 ⟨rfl, st9⟩
          rw [show wd 32 4 = 4 from rfl, List.append_assoc, ← putHead_succ (by omega)] at st9
          replace st := st.trans st9
          refine XR_nil ?_
          refine X_blk ?_
          refine X_reg ?_
          first | refine XR_a (op_addN (n := 1) rfl rfl (by simp only [inK]; omega)) rfl rfl ?_ | refine XR_a (op_addI rfl rfl (by simp only [inK]; omega)) rfl rfl ?_ | refine XR_a (op_add rfl rfl) rfl rfl ?_
          refine XR_a (op_move rfl) rfl rfl ?_
          refine XR_nil ?_
          exact X_again (i + 1) (.cons rfl (.cons rfl (.cons rfl (.cons rfl (.cons rfl (.cons rfl (.nil _))))))) ⟨by omega, st⟩ (by omega)
        · refine X_exit rfl ?_
          refine X_seq ?_
          refine X_seq ?_
          obtain rfl : i = 19 := by omega
          have hhl := putHead_len ls 19
          refine X_reg ?_
          refine XR_a (op_move rfl) rfl rfl ?_
          refine XR_wa (opl_call (rparts_spec) rfl (by kernel_rfl)) rfl rfl rfl ?_
          rintro _ hp10 ⟨pp2, rfl, st10⟩
          replace st := st.join st10
          simp only [List.cons_append, List.nil_append] at st
          refine XR_nil ?_
          refine X_block ?_
          refine X_rangeS st rfl rfl (by kernel_rfl) fun fn2 tmps2 L2 y2 d2 hp2 hL2 hok2 hx2 st1 => ?_
          obtain ⟨JR, hJR⟩ : ∃ JR : List (Nat × Nat) → List Res, JR = fun s => [obj y2 (L2 .ready none), wrR p (bs ++ putHead ls 19 ++ s.flatMap (partBits (plens ls))), codeR pc (plens ls), pt p2 72 [.pointer (some ⟨p, 0, none⟩)], pt p9 123 [.pointer (some ⟨pc, 0, none⟩)]] := ⟨_, rfl⟩
          have st2 := St.reF [_, _, _, _, _, _, _, _, _] 9 st1 [2, 0, 3, 4, 5, 6, 1, 7, 8] (by decide)
          simp only [List.map_cons, List.map_nil, getR, List.cons_append, List.nil_append] at st2
          have st12 : St B h0 hp2 (pt pp2 49 [.slice A n c] :: (JR [] ++ (obj d2 (.deferred (some [])) :: Bn.row 3 1 (.slice A7 19 c7) ((plens ls).map nV) :: obj d1 (.deferred (some [])) :: F))) := by rw [hJR]; simpa using st2
          refine Ret.mono (parts_iter JR st12.here (fun h' hl' => hrN h' (st12.low.trans hl')) hlN (by omega) ?_) ?_
          · intro s x r F' h hlow hsP st2
            subst hL2
            subst hJR
            simp only [List.cons_append, List.nil_append] at st2
            obtain ⟨hx19, hxL, hxH⟩ := hpm x (by rw [← hsP]; simp)
            have hxh := rH_le x.1
            have hsl : s.length < (partsL ls 0).length := by rw [← hsP]; simp
            have hfb := flat_bd (partBits (plens ls)) 22 (partBits_len hok) s
            have hpb := partBits_len hok x
            refine rret_of_X (st2.obj_at 0 rfl) hok2 rfl rfl fun w0 hw0 => ?_
            simp only [penv]
            refine X_reg ?_
            refine XR_wa (opl_new rfl) rfl rfl rfl ?_
            rintro _ hp ⟨p13, rfl, hnew⟩
            have st := st2.new hnew
            refine XR_wn (opl_store_whole (us := pC2 x) st 0 rfl rfl rfl rfl rfl (one_pC2 x) rfl) rfl rfl fun _ hp st => ?_
            simp only [List.set_cons_zero] at st
            refine XR_nil ?_
            refine X_begin (st.obj_at 1 rfl) ?_
            replace st := st.loop 1 .busy none rfl
            simp only [List.set_cons_zero, List.set_cons_succ] at st
            replace st := St.reF [_, _, _, _, _, _] 6 st [2, 3, 0, 1, 4, 5] (by decide)
            simp only [List.map_cons, List.map_nil, getR, List.cons_append, List.nil_append] at st
            refine X_block ?_
            refine X_seq ?_
            refine X_reg ?_
            first | refine XR_a (op_field0 rfl rfl) rfl rfl ?_ | refine XR_a (op_fieldn rfl rfl) rfl rfl ?_
            refine XR_a (op_ld (st.cell 2 (i := 0) rfl rfl) rfl rfl rfl) rfl rfl ?_
            refine XR_wa (opl_call (bounds_spec x.1 _) rfl (by kernel_rfl)) rfl rfl rfl ?_
            rintro _ _ ⟨rfl, rfl⟩
            refine XR_a (op_move rfl) rfl rfl ?_
            refine XR_a (op_extract rfl rfl) rfl rfl ?_
            refine XR_a (op_extract rfl rfl) rfl rfl ?_
            refine XR_a (op_extract rfl rfl) rfl rfl ?_
            refine XR_a (op_assign rfl) rfl rfl ?_
            refine XR_a (op_assign rfl) rfl rfl ?_
            refine XR_a (op_assign rfl) rfl rfl ?_
            refine XR_nil ?_
            refine X_seq ?_
            refine X_reg ?_
            refine XR_a (op_ld (st.cell 5 (i := 0) rfl rfl) rfl rfl rfl) rfl rfl ?_
            refine XR_a (op_ld (st.cell 4 (i := 0) rfl rfl) rfl rfl rfl) rfl rfl ?_
            first | refine XR_a (op_field0 rfl rfl) rfl rfl ?_ | refine XR_a (op_fieldn rfl rfl) rfl rfl ?_
            refine XR_a (op_ld (st.cell 2 (i := 0) rfl rfl) rfl rfl rfl) rfl rfl ?_
            refine XR_wa (opl_call (cput_spec (s := (x.1 : Nat)) st.here hok (by simp only [List.length_append]; omega)) rfl (by kernel_rfl)) rfl rfl rfl ?_
            rintro _ hp14 ⟨rfl, st14⟩
            rw [lenAt_cast, Int.toNat_natCast] at st14
            replace st := st.trans st14
            refine XR_nil ?_
            refine X_reg ?_
            refine XR_a (op_ld (st.cell 4 (i := 0) rfl rfl) rfl rfl rfl) rfl rfl ?_
            first | refine XR_a (op_field0 rfl rfl) rfl rfl ?_ | refine XR_a (op_fieldn rfl rfl) rfl rfl ?_
            refine XR_a (op_ld (st.cell 2 (i := 1) rfl rfl) rfl rfl rfl) rfl rfl ?_
            refine XR_a (op_move rfl) rfl rfl ?_
            refine XR_a (op_subN (m := x.2) (n := rL x.1) rfl rfl hxL (by simp only [inK]; omega)) rfl rfl ?_
            refine XR_a (op_convI (k' := .u32) rfl rfl (by simp only [inK]; omega)) rfl rfl ?_
            refine XR_a (op_move rfl) rfl rfl ?_
            refine XR_wa (opl_call (put_spec (n := x.2 - rL x.1) (k := ((rW x.1 : Nat) : Int)) st.here (by omega) (by simp only [List.length_append, codeBits_length]; have h15 : (plens ls).getD x.1 0 ≤ 15 := by { rw [getD_eq (by omega)]; exact hok.2.2.1 _ (List.getElem_mem _) }; omega)) rfl (by kernel_rfl)) rfl rfl rfl ?_
            rintro _ hp15 ⟨rfl, st15⟩
            rw [wd_nat (by have := rW_le x.1; omega)] at st15
            replace st := st.trans st15
            refine XR_nil ?_
            refine X_blk ?_
            refine X_rnd (st.obj_at 3 rfl) ⟨rfl, ?_⟩
            replace st := st.loop 3 .ready none rfl
            simp only [List.set_cons_zero, List.set_cons_succ] at st
            have e : bs ++ putHead ls 19 ++ s.flatMap (partBits (plens ls)) ++ codeBits (val (plens ls) x.1) ((plens ls).getD x.1 0) ++ bitsN (rW x.1) (x.2 - rL x.1) = bs ++ putHead ls 19 ++ (s ++ [x]).flatMap (partBits (plens ls)) := by
              rw [List.flatMap_append]
              simp [partBits]
            rw [e] at st
            replace st := St.reF [_, _, _, _, _, _] 6 st [2, 3, 0, 1, 4, 5] (by decide)
            simp only [List.map_cons, List.map_nil, getR, List.cons_append, List.nil_append] at st
            exact st.tail
          rintro _ h' st3
          subst hJR
          simp only [List.cons_append, List.nil_append] at st3
          refine .inl ⟨_, st12.trans st3, fun hp3 st4 => ?_⟩
          have st := st4
          refine X_blk ?_
          refine X_seq ?_
          refine X_reg ?_
          refine XR_a (op_assign rfl) rfl rfl ?_
          refine XR_nil ?_
          refine X_retM2 (d := d2) (e := d1) (.cons (.tmp rfl) .nil) ?_ (st.obj_at 5 rfl) ((st.put 5 (.deferred none) rfl).obj_at 7 rfl)
          replace st := (st.put 5 (.deferred none) rfl).put 7 (.deferred none) rfl
          simp only [List.set_cons_zero, List.set_cons_succ] at st
          replace st := St.reF [_, _, _, _, _, _, _, _] 8 st [0, 2, 3, 4, 5, 6, 7, 1] (by decide)
          simp only [List.map_cons, List.map_nil, getR, List.cons_append, List.nil_append] at st
          refine ⟨rfl, ?_⟩
          unfold putR
          rw [← List.append_assoc]
          exact st.tail.tail.tail.tail.tail.tail.tail

theorem rput_nil {n c : Nat} {A : Option Addr} {h0 : Heap} : Ret Try.prog 46 [.pointer none, .slice A n c] h0 fun v h' => v = nV (if n < 1 ∨ 320 < n then 5 else 1) ∧ Ext h0 h' := by
  refine ret_of_X Try.func46 rfl rfl fun w0 hw0 => ?_
  simp only [argE, Nat.zero_add, Nat.reduceAdd]
  have st := St.start h0
  refine X_seq ?_
  refine X_reg ?_
  refine XR_wa (opl_bx (cs := [.pointer none]) rfl rfl) rfl rfl rfl ?_
  rintro _ hp ⟨p2, rfl, hnew⟩
  replace st := st.new hnew
  refine XR_a (op_assign rfl) rfl rfl ?_
  refine XR_nil ?_
  refine X_seq ?_
  refine X_block ?_
  refine X_seq ?_
  refine X_reg ?_
  refine XR_a (op_move rfl) rfl rfl ?_
  refine XR_a (op_len rfl rfl rfl) rfl rfl ?_
  refine XR_a (op_lss rfl rfl) rfl rfl ?_
  refine XR_a (op_move rfl) rfl rfl ?_
  refine XR_if 21 rfl (fun h => ?_) (fun h => ?_)
  · have h21 := h
    refine XR_no rfl rfl ?_
    refine XR_no rfl rfl ?_
    refine XR_no rfl rfl ?_
    refine XR_a (op_pick_t rfl rfl) rfl rfl ?_
    refine XR_a (op_assign rfl) rfl rfl ?_
    refine XR_nil ?_
    refine X_then rfl ?_
    refine X_seq ?_
    refine X_reg ?_
    refine XR_a (op_assign rfl) rfl rfl ?_
    refine XR_nil ?_
    refine X_ret (.cons (.tmp rfl) .nil) ?_
    exact ⟨by rw [if_pos (by omega)]; rfl, st.low⟩
  · have h21 := h
    refine XR_a (op_move rfl) rfl rfl ?_
    refine XR_a (op_len rfl rfl rfl) rfl rfl ?_
    refine XR_a (op_gtr rfl rfl) rfl rfl ?_
    refine XR_a (op_pick_f rfl rfl) rfl rfl ?_
    refine XR_a (op_assign rfl) rfl rfl ?_
    refine XR_nil ?_
    refine X_if rfl (fun h => ?_) (fun h => ?_)
    · refine X_seq ?_
      refine X_reg ?_
      refine XR_a (op_assign rfl) rfl rfl ?_
      refine XR_nil ?_
      refine X_ret (.cons (.tmp rfl) .nil) ?_
      exact ⟨by rw [if_pos (by omega)]; rfl, st.low⟩
    · refine X_seq ?_
      refine X_reg ?_
      refine XR_a (op_ld (st.cell 0 (i := 0) rfl rfl) rfl rfl rfl) rfl rfl ?_
      refine XR_a (op_ptr_nil rfl rfl rfl) rfl rfl ?_
      refine XR_a (op_move rfl) rfl rfl ?_
      refine XR_no rfl rfl ?_
      refine XR_no rfl rfl ?_
      refine XR_no rfl rfl ?_
      refine XR_a (op_pick_t rfl rfl) rfl rfl ?_
      refine XR_a (op_assign rfl) rfl rfl ?_
      refine XR_nil ?_
      refine X_then rfl ?_
      refine X_seq ?_
      refine X_reg ?_
      refine XR_a (op_assign rfl) rfl rfl ?_
      refine XR_nil ?_
      refine X_ret (.cons (.tmp rfl) .nil) ?_
      exact ⟨by rw [if_neg (by omega)]; rfl, st.low⟩
end Go.Bn
