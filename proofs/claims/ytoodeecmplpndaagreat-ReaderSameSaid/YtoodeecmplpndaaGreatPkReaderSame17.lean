/- Packed texts of a claim: what its theorem uses, joined. -/
import Derived.Test.YtoodeecmplpndaaGreatPkReaderSame16
section
set_option linter.unusedVariables false
set_option linter.unusedSimpArgs false
set_option maxHeartbeats 4000000
set_option maxRecDepth 20000
namespace Go.Bn
open Go Proofs
theorem lenAt_cast (ls : List Nat) (x : Nat) : lenAt ls (x : Int) = ls.getD x 0 := by unfold lenAt; rw [if_neg (by omega), Int.toNat_natCast]
def putE (li : List Int) : Nat := if li.length < 1 ∨ 320 < li.length then 5 else if ∀ x ∈ li, 0 ≤ x ∧ x ≤ 15 then 0 else 1
noncomputable def putL (li : List Int) : List Bool := if putE li = 0 then putR (li.map Int.toNat) else []
theorem rput_spec {B p n c : Nat} {A : Option Addr} {li : List Int} {bs : List Bool} {F : List Res} {h0 : Heap} (st0 : St B h0 h0 (wrR p bs :: F)) (hrB : ∀ h' rs, St B h0 h' (rs ++ F) → Rd h' A (li.map iV)) (hl : li.length = n) (hn : n ≤ 17592186044416) (hbs : bs.length ≤ 1048576) :
  Ret Tryz.prog 79 [.pointer (some ⟨p, 0, none⟩), .slice A n c] h0 fun v h' => v = nV (putE li) ∧ St B h0 h' (wrR p (bs ++ putL li) :: F) := by
 refine ret_of_X Tryz.func79 rfl rfl fun w0 hw0 => ?_
 simp only [argE, Nat.zero_add, Nat.reduceAdd]
 refine X_seq (X_reg ?_)
 refine XR_wa (opl_bx (cs := [.pointer (some ⟨p, 0, none⟩)]) rfl rfl) rfl rfl rfl ?_
 rintro _ hp ⟨p2, rfl, hnew⟩
 have st := st0.new hnew
 refine XA rfl rfl rfl (XR_nil (X_seq (X_block (X_seq (X_reg (XV rfl rfl rfl ?_))))))
 refine XR_a (op_len rfl rfl rfl) rfl rfl ?_
 refine XR_a (op_lss rfl rfl) rfl rfl ?_
 refine XV rfl rfl rfl ?_
 refine XR_if 21 rfl (fun h => ?_) (fun h => ?_)
 ·have h21 := h
  refine XR_no rfl rfl (XR_no rfl rfl (XR_no rfl rfl (XR_a (op_pick_t rfl rfl) rfl rfl (XA rfl rfl rfl (XR_nil (X_then rfl (X_seq (X_reg (XA rfl rfl rfl ?_)))))))))
  refine XR_nil ?_
  refine X_ret (.cons (.tmp rfl) .nil) ?_
  have he : putE li = 5 := by unfold putE; rw [if_pos (by omega)]
  unfold putL
  rw [he, if_neg (by omega), List.append_nil]
  exact ⟨rfl, st.tail⟩
 ·have h21 := h
  refine XV rfl rfl rfl ?_
  refine XR_a (op_len rfl rfl rfl) rfl rfl ?_
  refine XR_a (op_gtr rfl rfl) rfl rfl ?_
  refine XR_a (op_pick_f rfl rfl) rfl rfl (XA rfl rfl rfl (XR_nil ?_))
  refine X_if rfl (fun h => ?_) (fun h => ?_)
  ·refine X_seq (X_reg (XA rfl rfl rfl (XR_nil ?_)))
   refine X_ret (.cons (.tmp rfl) .nil) ?_
   have he : putE li = 5 := by unfold putE; rw [if_pos (by omega)]
   unfold putL
   rw [he, if_neg (by omega), List.append_nil]
   exact ⟨rfl, st.tail⟩
  ·refine X_seq (X_reg ?_)
   refine XR_a (op_ld (st.cell 0 (i := 0) rfl rfl) rfl rfl rfl) rfl rfl ?_
   refine XR_a (op_ptr_nil rfl rfl rfl) rfl rfl ?_
   refine XV rfl rfl rfl (XV rfl rfl rfl ?_)
   refine XR_wa (opl_call (rright_spec (hrB _ [_, _] st) hl hn) rfl (by kernel_rfl)) rfl rfl rfl ?_
   rintro _ _ ⟨rfl, rfl⟩
   first | refine XR_a (op_notd rfl) rfl rfl ?_ | refine XR_a (op_not rfl) rfl rfl ?_
   refine XR_a (op_pick_f rfl rfl) rfl rfl (XA rfl rfl rfl (XR_nil ?_))
   refine X_if rfl (fun h => ?_) (fun h => ?_)
   ·refine X_seq (X_reg (XA rfl rfl rfl (XR_nil ?_)))
    refine X_ret (.cons (.tmp rfl) .nil) ?_
    have he : putE li = 1 := by unfold putE; rw [if_neg (by omega), if_neg h]
    unfold putL
    rw [he, if_neg (by omega), List.append_nil]
    exact ⟨rfl, st.tail⟩
   ·have hb := Decidable.not_not.1 h
    have he : putE li = 0 := by unfold putE; rw [if_neg (by omega), if_pos hb]
    have hpl : putL li = putR (li.map Int.toNat) := by unfold putL; rw [if_pos he]
    have hb2 : ∀ x ∈ li.map Int.toNat, x ≤ 15 := fun x hx => by obtain ⟨y, hy, rfl⟩ := List.mem_map.1 hx; have := hb y hy; omega
    have hrN : ∀ h' rs, St B h0 h' (rs ++ F) → Rd h' A ((li.map Int.toNat).map nV) := fun h' rs hs => by rw [nV_iV, toNat_map fun x hx => (hb x hx).1]; exact hrB h' rs hs
    have hlN : (li.map Int.toNat).length = n := by rw [List.length_map]; exact hl
    rw [he, hpl]
    obtain ⟨ls, hls⟩ : ∃ ls, li.map Int.toNat = ls := ⟨_, rfl⟩
    rw [hls] at hb2 hrN hlN
    rw [hls]
    have hpm := partsL_mem hb2
    have hplen := partsL_len ls
    have hok := plens_ok hb2 (by omega)
    have h19 := plens_len ls
    refine X_skip (X_blk (X_seq (X_reg ?_)))
    refine XR_wa (opl_mk (n := 19) (by omega) rfl rfl rfl) rfl rfl rfl ?_
    rintro v hp hnew
    replace st := st.new hnew
    obtain ⟨go, no, co, rfl, hno, _⟩ := st.row0 0 rfl (by rw [List.length_replicate]; omega)
    obtain rfl : no = 19 := by simpa using hno.symm
    rw [show List.replicate 19 (Value.int .i64 0) = (pcnt []).map nV by rw [pcnt_nil, List.map_replicate]; rfl] at st
    refine XR_wa (opl_new rfl) rfl rfl rfl ?_
    rintro _ hp ⟨p5, rfl, hnew⟩
    replace st := st.new hnew
    refine XR_wn (opl_store_pt st 0 rfl rfl rfl rfl rfl (rfl)) rfl rfl fun _ hp st => ?_
    simp only [List.set_cons_zero, List.set_cons_succ] at st
    refine XR_nil (X_seq (X_seq (X_reg (XV rfl rfl rfl ?_))))
    refine XR_wa (opl_call (rparts_spec) rfl (by kernel_rfl)) rfl rfl rfl ?_
    rintro _ hp3 ⟨pp, rfl, st3⟩
    replace st := st.join st3
    simp only [List.cons_append, List.nil_append] at st
    refine XR_nil (X_block ?_)
    refine X_rangeS st rfl rfl (by kernel_rfl) fun fn tmps L1 y1 d1 hp1 hL1 hok1 hx1 st1 => ?_
    obtain ⟨JR, hJR⟩ : ∃ JR : List (Nat × Nat) → List Res, JR = fun s => [obj y1 (L1 .ready none), pt p5 73 [.slice (some ⟨go, 0, none⟩) 19 co], Bn.row 3 1 (.slice (some ⟨go, 0, none⟩) 19 co) ((pcnt s).map nV)] := ⟨_, rfl⟩
    have st2 := St.reF [_, _, _, _, _] 5 st1 [2, 0, 3, 4, 1] (by decide)
    simp only [List.map_cons, List.map_nil, getR, List.cons_append, List.nil_append] at st2
    have st11 : St B h0 hp1 (pt pp 73 [.slice A n c] :: (JR [] ++ (obj d1 (.deferred (some [])) :: pt p2 41 [.pointer (some ⟨p, 0, none⟩)] :: wrR p bs :: F))) := by rw [hJR]; exact st2
    refine Ret.mono (parts_iter JR st11.here (fun h' rs hs => hrN h' (rs ++ [_, _, _]) (by rw [List.append_assoc]; exact st11.trans hs)) hlN (by omega) ?_) ?_
    ·intro s x r F' h hlow hsP st2
     subst hL1
     subst hJR
     simp only [List.cons_append, List.nil_append] at st2
     have hx19 := (hpm x (by rw [← hsP]; simp)).1
     have hsl : s.length < (partsL ls 0).length := by rw [← hsP]; simp
     have hcl := pcnt_le s
     have hog := pcnt_get (s := s) hx19
     have hcx : (s.map (·.1)).count x.1 ≤ s.length := hcl _ (List.mem_of_getElem? hog)
     refine rret_of_X (st2.obj_at 0 rfl) hok1 rfl rfl fun w0 hw0 => ?_
     simp only [penv]
     refine X_reg ?_
     refine XR_wa (opl_new rfl) rfl rfl rfl ?_
     rintro _ hp ⟨p6, rfl, hnew⟩
     have st := st2.new hnew
     refine XR_wn (opl_store_whole (us := pC2 x) st 0 rfl rfl rfl rfl rfl (one_pC2 x) rfl) rfl rfl fun _ hp st => ?_
     simp only [List.set_cons_zero] at st
     refine XR_nil ?_
     refine X_begin (st.obj_at 1 rfl) ?_
     replace st := st.loop 1 .busy none rfl
     simp only [List.set_cons_zero, List.set_cons_succ] at st
     obtain ⟨_, _, he8, hc8⟩ := (st.rdS 3 rfl).2.at_ (by rw [List.length_map, pcnt_len]; omega)
     cases he8
     have hov := hc8 _ _ (map_get_nV hog)
     refine X_block (X_reg ?_)
     refine XR_a (op_ld (st.cell 2 (i := 0) rfl rfl) rfl rfl rfl) rfl rfl ?_
     first | refine XR_a (op_field0 rfl rfl) rfl rfl ?_ | refine XR_a (op_fieldn rfl rfl) rfl rfl ?_
     refine XR_a (op_ld (st.cell 0 (i := 0) rfl rfl) rfl rfl rfl) rfl rfl ?_
     first | refine XR_a (op_index1 rfl rfl rfl (by omega)) rfl rfl ?_ | refine XR_a (op_index rfl rfl rfl (by omega)) rfl rfl ?_
     refine XR_a (op_ld (hov) rfl rfl rfl) rfl rfl ?_
     first | refine XR_a (op_addN (n := 1) rfl rfl (by simp only [inK]; omega)) rfl rfl ?_ | refine XR_a (op_addI rfl rfl (by simp only [inK]; omega)) rfl rfl ?_ | refine XR_a (op_add rfl rfl) rfl rfl ?_
     first | refine XR_a (op_index1 rfl rfl rfl (by omega)) rfl rfl ?_ | refine XR_a (op_index rfl rfl rfl (by omega)) rfl rfl ?_
     refine XR_wn (opl_store_row (v := nV ((s.map (·.1)).count x.1 + 1)) st 3 rfl rfl rfl (by rw [List.length_map, pcnt_len]; exact hx19) rfl rfl) rfl rfl fun _ hp st => ?_
     simp only [List.set_cons_zero, List.set_cons_succ] at st
     rw [map_set_nV, pcnt_set] at st
     refine XR_nil (X_blk ?_)
     refine X_rnd (st.obj_at 1 rfl) ⟨rfl, ?_⟩
     replace st := st.loop 1 .ready none rfl
     simp only [List.set_cons_zero, List.set_cons_succ] at st
     exact st.tail
    rintro _ h' st3
    subst hJR
    simp only [List.cons_append, List.nil_append] at st3
    refine .inl ⟨_, st11.trans st3, fun hp3 st4 => ?_⟩
    have st := st4
    have hrdP := (st.rdS 2 rfl).2
    rw [nV_iV] at hrdP
    have hbW : boundedB 1073741824 ((pcnt (partsL ls 0)).map fun n : Nat => (n : Int)) := by
     refine ⟨by rw [List.length_map, pcnt_len]; omega, fun x hx => ?_⟩
     obtain ⟨y, hy, rfl⟩ := List.mem_map.1 hx
     have := pcnt_le _ y hy; omega
    have hlI : lensI ((pcnt (partsL ls 0)).map fun n : Nat => (n : Int)) = plens ls := by
     unfold lensI
     rw [if_pos (errW_zero.2 hbW), cast_toNat]; rfl
    have hRC : rightC ((plens ls).map fun n : Nat => (n : Int)) := by
     refine ⟨by rw [List.length_map, h19]; omega, ⟨by rw [List.length_map, h19]; omega, fun x hx => ?_⟩, by rw [cast_toNat]; exact hok.2.2.2⟩
     obtain ⟨y, hy, rfl⟩ := List.mem_map.1 hx
     have := hok.2.2.1 y hy; omega
    refine X_blk (X_seq (X_reg ?_))
    refine XR_a (op_ld (st.cell 1 (i := 0) rfl rfl) rfl rfl rfl) rfl rfl ?_
    refine XR_wa (opl_call (lengths_spec hrdP (by rw [List.length_map, pcnt_len]) (by omega)) rfl (by kernel_rfl)) rfl rfl rfl ?_
    rintro _ hp5 ⟨v7, rfl, st5⟩
    rw [hlI] at st5
    obtain ⟨A7, n7, c7, rfl, hl7, _, _, hrd7⟩ := st5.row 0 rfl
    rw [List.length_map, h19, Nat.mul_one] at hl7
    obtain rfl : n7 = 19 := by omega
    replace st := st.join st5
    simp only [List.cons_append, List.nil_append] at st
    have hrd7I := hrd7
    rw [nV_iV] at hrd7I
    refine XV rfl rfl rfl (XR_a (op_extract rfl rfl) rfl rfl (XR_a (op_extract rfl rfl) rfl rfl (XA rfl rfl rfl (XA rfl rfl rfl (XR_nil (X_seq (X_reg (XV rfl rfl rfl ?_))))))))
    refine XR_wa (opl_call (cnew_spec hrd7I (by rw [List.length_map, h19]) (by omega)) rfl (by kernel_rfl)) rfl rfl rfl ?_
    rintro _ hp6 ⟨w, rfl, hx6, hy6, _⟩
    obtain ⟨pc, rfl, sc⟩ := hy6 hRC
    rw [cast_toNat] at sc
    replace st := st.join sc
    simp only [List.cons_append, List.nil_append] at st
    refine XV rfl rfl rfl (XR_a (op_extract rfl rfl) rfl rfl (XR_a (op_extract rfl rfl) rfl rfl ?_))
    refine XR_wa (opl_new rfl) rfl rfl rfl ?_
    rintro _ hp ⟨p9, rfl, hnew⟩
    replace st := st.new hnew
    refine XR_wn (opl_store_pt st 0 rfl rfl rfl rfl rfl (rfl)) rfl rfl fun _ hp st => ?_
    simp only [List.set_cons_zero, List.set_cons_succ] at st
    refine XA rfl rfl rfl (XR_nil (X_seq ?_))
    replace st := St.reF [_, _, _, _, _, _, _, _, _] 9 st [3, 4, 5, 8, 1, 7, 0, 2, 6] (by decide)
    simp only [List.map_cons, List.map_nil, getR, List.cons_append, List.nil_append] at st
    replace st := st.tail.tail.tail
    refine X_reg ?_
    refine XR_a (op_ld (st.cell 2 (i := 0) rfl rfl) rfl rfl rfl) rfl rfl ?_
    refine XV rfl rfl rfl ?_
    refine XR_a (op_len rfl rfl rfl) rfl rfl ?_
    refine XR_a (op_convI (k' := .u32) rfl rfl (by simp only [inK]; omega)) rfl rfl ?_
    refine XR_wa (opl_call (put_spec (n := n) (k := 9) st.here (by omega) (by omega)) rfl (by kernel_rfl)) rfl rfl rfl ?_
    rintro _ hp7 ⟨rfl, st7⟩
    rw [show wd 32 9 = 9 from rfl] at st7
    replace st := st.trans st7
    refine XR_nil (X_seq (X_seq (X_reg (XV rfl rfl rfl ?_))))
    refine XR_a (op_len rfl rfl rfl) rfl rfl ?_
    refine XV rfl rfl rfl (XR_nil (X_block ?_))
    have hh0 : bs ++ bitsN 9 n = bs ++ putHead ls 0 := by unfold putHead; rw [hlN]; simp
    rw [hh0] at st
    refine X_loop (fun i => 19 - i) (fun i => [(1, .slice A n c), (2, .pointer (some ⟨p2, 0, none⟩)), (9, .pointer (some ⟨p9, 0, none⟩)), (60, .slice A7 19 c7), (61, nV 19), (62, nV i)])
     (fun (i : Nat) hp => i ≤ 19 ∧ St B h0 hp (wrR p (bs ++ putHead ls i) :: codeR pc (plens ls) :: pt p2 41 [.pointer (some ⟨p, 0, none⟩)] :: pt p9 68 [.pointer (some ⟨pc, 0, none⟩)] :: Bn.row 3 1 (.slice A7 19 c7) ((plens ls).map nV) :: obj d1 (.deferred (some [])) :: F))
     0 (.cons rfl (.cons rfl (.cons rfl (.cons rfl (.cons rfl (.cons rfl (.nil _))))))) ⟨Nat.zero_le _, st⟩ ?_
    clear st st7
    rintro i hp8 ⟨hi, st⟩
    refine X_seq (X_reg ?_)
    refine XR_a (op_lss rfl rfl) rfl rfl ?_
    refine XR_nil (X_seq ?_)
    refine X_if rfl (fun h => ?_) (fun h => ?_)
    ·obtain ⟨g7, o7, rfl, hc7⟩ := (st.rdS 4 rfl).2.at_ (by rw [List.length_map]; omega)
     have hli := hc7 i (nV ((plens ls).getD i 0)) (by rw [List.getElem?_map, List.getElem?_eq_getElem (by omega), getD_eq (by omega)]; rfl)
     have hl15 : (plens ls).getD i 0 ≤ 15 := by rw [getD_eq (by omega)]; exact hok.2.2.1 _ (List.getElem_mem _)
     have hhl := putHead_len ls i
     refine X_skip (X_seq (X_block (X_seq (X_reg ?_))))
     first | refine XR_a (op_index1 rfl rfl rfl (by omega)) rfl rfl ?_ | refine XR_a (op_index rfl rfl rfl (by omega)) rfl rfl ?_
     refine XR_a (op_ld (hli) rfl rfl rfl) rfl rfl ?_
     refine XA rfl rfl rfl (XR_nil (X_reg ?_))
     refine XR_a (op_ld (st.cell 2 (i := 0) rfl rfl) rfl rfl rfl) rfl rfl ?_
     refine XV rfl rfl rfl ?_
     refine XR_a (op_convI (k' := .u32) rfl rfl (by simp only [inK]; omega)) rfl rfl ?_
     refine XR_wa (opl_call (put_spec (n := (plens ls).getD i 0) (k := 4) st.here (by omega) (by rw [List.length_append]; omega)) rfl (by kernel_rfl)) rfl rfl rfl ?_
     rintro _ hp9 ⟨rfl, st9⟩
     rw [show wd 32 4 = 4 from rfl, List.append_assoc, ← putHead_succ (by omega)] at st9
     replace st := st.trans st9
     refine XR_nil (X_blk (X_reg ?_))
     first | refine XR_a (op_addN (n := 1) rfl rfl (by simp only [inK]; omega)) rfl rfl ?_ | refine XR_a (op_addI rfl rfl (by simp only [inK]; omega)) rfl rfl ?_ | refine XR_a (op_add rfl rfl) rfl rfl ?_
     refine XV rfl rfl rfl (XR_nil ?_)
     exact X_again (i + 1) (.cons rfl (.cons rfl (.cons rfl (.cons rfl (.cons rfl (.cons rfl (.nil _))))))) ⟨by omega, st⟩ (by omega)
    ·refine X_exit rfl (X_seq (X_seq ?_))
     obtain rfl : i = 19 := by omega
     have hhl := putHead_len ls 19
     refine X_reg (XV rfl rfl rfl ?_)
     refine XR_wa (opl_call (rparts_spec) rfl (by kernel_rfl)) rfl rfl rfl ?_
     rintro _ hp10 ⟨pp2, rfl, st10⟩
     replace st := st.join st10
     simp only [List.cons_append, List.nil_append] at st
     refine XR_nil (X_block ?_)
     refine X_rangeS st rfl rfl (by kernel_rfl) fun fn2 tmps2 L2 y2 d2 hp2 hL2 hok2 hx2 st1 => ?_
     obtain ⟨JR, hJR⟩ : ∃ JR : List (Nat × Nat) → List Res, JR = fun s => [obj y2 (L2 .ready none), wrR p (bs ++ putHead ls 19 ++ s.flatMap (partBits (plens ls))), codeR pc (plens ls), pt p2 41 [.pointer (some ⟨p, 0, none⟩)], pt p9 68 [.pointer (some ⟨pc, 0, none⟩)]] := ⟨_, rfl⟩
     have st2 := St.reF [_, _, _, _, _, _, _, _, _] 9 st1 [2, 0, 3, 4, 5, 6, 1, 7, 8] (by decide)
     simp only [List.map_cons, List.map_nil, getR, List.cons_append, List.nil_append] at st2
     have st12 : St B h0 hp2 (pt pp2 73 [.slice A n c] :: (JR [] ++ (obj d2 (.deferred (some [])) :: Bn.row 3 1 (.slice A7 19 c7) ((plens ls).map nV) :: obj d1 (.deferred (some [])) :: F))) := by rw [hJR]; simpa using st2
     refine Ret.mono (parts_iter JR st12.here (fun h' rs hs => hrN h' (rs ++ [_, _, _]) (by rw [List.append_assoc]; exact st12.trans hs)) hlN (by omega) ?_) ?_
     ·intro s x r F' h hlow hsP st2
      subst hL2
      subst hJR
      simp only [List.cons_append, List.nil_append] at st2
      obtain ⟨hx19, hxL, hxH⟩ := hpm x (by rw [← hsP]; simp)
      have hxh := rH_le x.1
      have hsl : s.length < (partsL ls 0).length := by rw [← hsP]; simp
      have hfb := flat_bd (partBits (plens ls)) 22 (partBits_len hok) s
      have hpb := partBits_len hok x
      refine rret_of_X (st2.obj_at 0 rfl) hok2 rfl rfl fun w0 hw0 => ?_
      simp only [penv]
      refine X_reg ?_
      refine XR_wa (opl_new rfl) rfl rfl rfl ?_
      rintro _ hp ⟨p13, rfl, hnew⟩
      have st := st2.new hnew
      refine XR_wn (opl_store_whole (us := pC2 x) st 0 rfl rfl rfl rfl rfl (one_pC2 x) rfl) rfl rfl fun _ hp st => ?_
      simp only [List.set_cons_zero] at st
      refine XR_nil ?_
      refine X_begin (st.obj_at 1 rfl) ?_
      replace st := st.loop 1 .busy none rfl
      simp only [List.set_cons_zero, List.set_cons_succ] at st
      replace st := St.reF [_, _, _, _, _, _] 6 st [2, 3, 0, 1, 4, 5] (by decide)
      simp only [List.map_cons, List.map_nil, getR, List.cons_append, List.nil_append] at st
      refine X_block (X_seq (X_reg ?_))
      first | refine XR_a (op_field0 rfl rfl) rfl rfl ?_ | refine XR_a (op_fieldn rfl rfl) rfl rfl ?_
      refine XR_a (op_ld (st.cell 2 (i := 0) rfl rfl) rfl rfl rfl) rfl rfl ?_
      refine XR_wa (opl_call (bounds_spec x.1 _) rfl (by kernel_rfl)) rfl rfl rfl ?_
      rintro _ _ ⟨rfl, rfl⟩
      refine XV rfl rfl rfl (XR_a (op_extract rfl rfl) rfl rfl (XR_a (op_extract rfl rfl) rfl rfl (XR_a (op_extract rfl rfl) rfl rfl (XA rfl rfl rfl (XA rfl rfl rfl (XA rfl rfl rfl (XR_nil (X_seq (X_reg ?_)))))))))
      refine XR_a (op_ld (st.cell 5 (i := 0) rfl rfl) rfl rfl rfl) rfl rfl ?_
      refine XR_a (op_ld (st.cell 4 (i := 0) rfl rfl) rfl rfl rfl) rfl rfl ?_
      first | refine XR_a (op_field0 rfl rfl) rfl rfl ?_ | refine XR_a (op_fieldn rfl rfl) rfl rfl ?_
      refine XR_a (op_ld (st.cell 2 (i := 0) rfl rfl) rfl rfl rfl) rfl rfl ?_
      refine XR_wa (opl_call (cput_spec (s := (x.1 : Nat)) st.here hok (by simp only [List.length_append]; omega)) rfl (by kernel_rfl)) rfl rfl rfl ?_
      rintro _ hp14 ⟨rfl, st14⟩
      rw [lenAt_cast, Int.toNat_natCast] at st14
      replace st := st.trans st14
      refine XR_nil (X_reg ?_)
      refine XR_a (op_ld (st.cell 4 (i := 0) rfl rfl) rfl rfl rfl) rfl rfl ?_
      first | refine XR_a (op_field0 rfl rfl) rfl rfl ?_ | refine XR_a (op_fieldn rfl rfl) rfl rfl ?_
      refine XR_a (op_ld (st.cell 2 (i := 1) rfl rfl) rfl rfl rfl) rfl rfl ?_
      refine XV rfl rfl rfl ?_
      refine XR_a (op_subN (m := x.2) (n := rL x.1) rfl rfl hxL (by simp only [inK]; omega)) rfl rfl ?_
      refine XR_a (op_convI (k' := .u32) rfl rfl (by simp only [inK]; omega)) rfl rfl ?_
      refine XV rfl rfl rfl ?_
      refine XR_wa (opl_call (put_spec (n := x.2 - rL x.1) (k := ((rW x.1 : Nat) : Int)) st.here (by omega) (by simp only [List.length_append, codeBits_length]; have h15 : (plens ls).getD x.1 0 ≤ 15 := by { rw [getD_eq (by omega)]; exact hok.2.2.1 _ (List.getElem_mem _) }; omega)) rfl (by kernel_rfl)) rfl rfl rfl ?_
      rintro _ hp15 ⟨rfl, st15⟩
      rw [wd_nat (by have := rW_le x.1; omega)] at st15
      replace st := st.trans st15
      refine XR_nil (X_blk ?_)
      refine X_rnd (st.obj_at 3 rfl) ⟨rfl, ?_⟩
      replace st := st.loop 3 .ready none rfl
      simp only [List.set_cons_zero, List.set_cons_succ] at st
      have e : bs ++ putHead ls 19 ++ s.flatMap (partBits (plens ls)) ++ codeBits (val (plens ls) x.1) ((plens ls).getD x.1 0) ++ bitsN (rW x.1) (x.2 - rL x.1) = bs ++ putHead ls 19 ++ (s ++ [x]).flatMap (partBits (plens ls)) := by
       rw [List.flatMap_append]
       simp [partBits]
      rw [e] at st
      replace st := St.reF [_, _, _, _, _, _] 6 st [2, 3, 0, 1, 4, 5] (by decide)
      simp only [List.map_cons, List.map_nil, getR, List.cons_append, List.nil_append] at st
      exact st.tail
     rintro _ h' st3
     subst hJR
     simp only [List.cons_append, List.nil_append] at st3
     refine .inl ⟨_, st12.trans st3, fun hp3 st4 => ?_⟩
     have st := st4
     refine X_blk (X_seq (X_reg (XA rfl rfl rfl (XR_nil ?_))))
     refine X_retM2 (d := d2) (e := d1) (.cons (.tmp rfl) .nil) ?_ (st.obj_at 5 rfl) ((st.put 5 (.deferred none) rfl).obj_at 7 rfl)
     replace st := (st.put 5 (.deferred none) rfl).put 7 (.deferred none) rfl
     simp only [List.set_cons_zero, List.set_cons_succ] at st
     replace st := St.reF [_, _, _, _, _, _, _, _] 8 st [0, 2, 3, 4, 5, 6, 7, 1] (by decide)
     simp only [List.map_cons, List.map_nil, getR, List.cons_append, List.nil_append] at st
     refine ⟨rfl, ?_⟩
     unfold putR
     rw [← List.append_assoc]
     exact st.tail.tail.tail.tail.tail.tail.tail
end Go.Bn
end

section
set_option linter.unusedVariables false
set_option linter.unusedSimpArgs false
set_option maxHeartbeats 4000000
set_option maxRecDepth 20000
namespace Go.Bn
open Go Proofs
theorem castN_iV (z : List Nat) : z.map nV = (castI z).map iV := by unfold castI; rw [List.map_map]; rfl
theorem castN_len (z : List Nat) : (castI z).length = z.length := by unfold castI; rw [List.length_map]
theorem St.rdM {B : Nat} {h0 hp : Heap} {rs : List Res} (s : St B h0 hp rs) {e sz n c : Nat} {A : Option Addr} {vs : List Value} (h : Bn.row e sz (.slice A n c) vs ∈ rs) : Rd hp A vs := by
 obtain ⟨j, hj, he⟩ := List.getElem_of_mem h
 exact (s.rdS j (by rw [List.getElem?_eq_getElem hj, he])).2
theorem lensI_cast {ws : List Nat} (h2 : ws.length ≤ 320) (hw : ∀ x ∈ ws, x ≤ 1073741824) : lensI (castI ws) = lensW ws := by
 have hb : boundedB 1073741824 (castI ws) := by
  refine ⟨by rw [castN_len]; exact h2, fun x hx => ?_⟩
  obtain ⟨y, hy, rfl⟩ := List.mem_map.1 hx
  have := hw y hy
  omega
 have he : errW (castI ws) = 0 := by
  unfold errW
  rw [castN_len, if_neg (by omega), if_pos hb]
 unfold lensI
 rw [if_pos he, castI_toNat]
theorem putL_cast {ls : List Nat} (h : lensOK ls) : putL (castI ls) = putR ls := by
 have hb : ∀ x ∈ castI ls, 0 ≤ x ∧ x ≤ 15 := by
  intro x hx
  obtain ⟨y, hy, rfl⟩ := List.mem_map.1 hx
  have := h.2.2.1 y hy
  omega
 have he : putE (castI ls) = 0 := by
  unfold putE
  rw [castN_len, if_neg (by have := h.1; have := h.2.1; omega), if_pos hb]
 unfold putL
 rw [if_pos he, castI_toNat]
theorem btable_spec {B p n c : Nat} {A : Option Addr} {ws : List Nat} {bs : List Bool} {F : List Res} {h0 : Heap} (st0 : St B h0 h0 (wrR p bs :: F)) (hrB : ∀ h' rs, St B h0 h' (rs ++ F) → Rd h' A (ws.map nV)) (hl : ws.length = n) (h1 : 1 ≤ n) (h2 : n ≤ 320) (hw : ∀ x ∈ ws, x ≤ 1073741824) (hs : (syms ws).length ≠ 0) (hbs : bs.length ≤ 1048576) :
  Ret Tryz.prog 43 [.pointer (some ⟨p, 0, none⟩), .slice A n c] h0 fun v h' => ∃ q, v = .pointer (some ⟨q, 0, none⟩) ∧ St B h0 h' (wrR p (bs ++ putR (lensW ws)) :: codeR q (lensW ws) :: F) := by
 have hok := lensW_ok (ws := ws) (by omega) (by omega) hs
 refine ret_of_X Tryz.func43 rfl rfl fun w0 hw0 => ?_
 simp only [argE, Nat.zero_add, Nat.reduceAdd]
 have st := st0
 refine X_seq (X_reg (XA rfl rfl rfl (XR_nil (X_seq (X_reg (XV rfl rfl rfl ?_))))))
 refine XR_wa (opl_call (lengths_spec (li := castI ws) (by rw [← castN_iV]; exact hrB _ [_] st) (by rw [castN_len]; exact hl) (by omega)) rfl (by kernel_rfl)) rfl rfl rfl ?_
 rintro _ hp1 ⟨v1, rfl, st1⟩
 rw [lensI_cast (by omega) hw] at st1
 replace st := st.join st1
 clear st1
 obtain ⟨A1, n1, c1, rfl, hl1, _, _, hrd1⟩ := st.row 0 rfl
 rw [List.length_map, lensW_length, Nat.mul_one] at hl1
 refine XV rfl rfl rfl (XR_a (op_extract rfl rfl) rfl rfl (XR_a (op_extract rfl rfl) rfl rfl (XA rfl rfl rfl (XA rfl rfl rfl (XR_nil (X_seq (X_reg (XV rfl rfl rfl ?_))))))))
 refine XR_wa (opl_call (cnew_spec (li := castI (lensW ws)) (by rw [← castN_iV]; exact hrd1) (by rw [castN_len, lensW_length]; exact hl1) (by omega)) rfl (by kernel_rfl)) rfl rfl rfl ?_
 rintro _ hp2 ⟨w, rfl, hx2, hyes, _⟩
 obtain ⟨q, rfl, stq⟩ := hyes (rightC_cast hok)
 rw [castI_toNat] at stq
 replace st := st.join stq
 clear stq hyes
 replace st := St.reF [_, _, _] 3 st [2, 0, 1] (by decide)
 simp only [List.map_cons, List.map_nil, getR, List.cons_append, List.nil_append] at st
 refine XV rfl rfl rfl (XR_a (op_extract rfl rfl) rfl rfl (XR_a (op_extract rfl rfl) rfl rfl (XA rfl rfl rfl (XA rfl rfl rfl (XR_nil (X_seq (X_reg (XV rfl rfl rfl (XV rfl rfl rfl ?_)))))))))
 refine XR_wa (opl_call (rput_spec (li := castI (lensW ws)) st.here (fun h' rs hs => by rw [← castN_iV]; exact hs.rdM (List.mem_append_right _ (List.mem_cons_of_mem _ List.mem_cons_self))) (by rw [castN_len, lensW_length]; exact hl1) (by omega) hbs) rfl (by kernel_rfl)) rfl rfl rfl ?_
 rintro _ hp3 ⟨rfl, st3⟩
 replace st := st.trans st3
 rw [putL_cast hok] at st
 refine XR_nil (X_seq (X_reg (XV rfl rfl rfl (XA rfl rfl rfl (XR_nil ?_)))))
 refine X_ret (.cons (.tmp rfl) .nil) ?_
 exact ⟨q, rfl, (St.reF [_, _, _] 3 st [2, 0, 1] (by decide)).tail⟩
theorem bone_spec {B p q : Nat} {ls : List Nat} {k : Kls} {bs : List Bool} {F : List Res} {h0 : Heap} (st0 : St B h0 h0 (wrR p bs :: codeR q ls :: F)) (hok : lensOK ls) (hk : 0 ≤ k.ext ∧ k.ext < 4294967296) (hbs : bs.length ≤ 1099511626000) :
  Ret Tryz.prog 44 [.pointer (some ⟨p, 0, none⟩), .pointer (some ⟨q, 0, none⟩), .agg (clsV k).toArray] h0 fun _ h' => St B h0 h' (wrR p (bs ++ symB ls k) :: codeR q ls :: F) := by
 obtain ⟨x, hx⟩ : ∃ x : Nat, k.ext = x := ⟨k.ext.toNat, by omega⟩
 have hl15 := lens_le hok k.num
 refine ret_of_X Tryz.func44 rfl rfl fun w0 hw0 => ?_
 simp only [argE, Nat.zero_add, Nat.reduceAdd]
 have st := st0
 refine X_seq (X_reg ?_)
 refine XR_wa (opl_bx (cs := clsV k) rfl rfl) rfl rfl rfl ?_
 rintro _ hp ⟨p5, rfl, hnew⟩
 replace st := st.new hnew
 refine XR_nil (X_seq (X_reg (XV rfl rfl rfl (XV rfl rfl rfl ?_))))
 first | refine XR_a (op_field0 rfl rfl) rfl rfl ?_ | refine XR_a (op_fieldn rfl rfl) rfl rfl ?_
 refine XR_a (op_ld (st.cell 0 (i := 0) rfl rfl) rfl rfl rfl) rfl rfl ?_
 replace st := St.reF [_, _, _] 3 st [1, 2, 0] (by decide)
 simp only [List.map_cons, List.map_nil, getR, List.cons_append, List.nil_append] at st
 refine XR_wa (opl_call (cput_spec st.here hok (by omega)) rfl (by kernel_rfl)) rfl rfl rfl ?_
 rintro _ hp2 ⟨rfl, st2⟩
 replace st := st.trans st2
 clear st2
 refine XR_nil (X_reg (XV rfl rfl rfl ?_))
 first | refine XR_a (op_field0 rfl rfl) rfl rfl ?_ | refine XR_a (op_fieldn rfl rfl) rfl rfl ?_
 refine XR_a (op_ld (st.cell 2 (i := 2) rfl rfl) rfl rfl rfl) rfl rfl ?_
 refine XR_as (.int .u32 ((x : Nat) : Int)) (congrArg (Value.int .u32) hx) ?_
 first | refine XR_a (op_field0 rfl rfl) rfl rfl ?_ | refine XR_a (op_fieldn rfl rfl) rfl rfl ?_
 refine XR_a (op_ld (st.cell 2 (i := 1) rfl rfl) rfl rfl rfl) rfl rfl ?_
 refine XR_wa (opl_call (put_spec (n := x) st.here (by omega) (by rw [List.length_append, codeBits_length]; omega)) rfl (by kernel_rfl)) rfl rfl rfl ?_
 rintro _ hp3 ⟨rfl, st2⟩
 replace st := st.trans st2
 clear st2
 have he : bs ++ codeBits (val ls k.num.toNat) (lenAt ls k.num) ++ bitsN (wd 32 k.bits) x = bs ++ symB ls k := by unfold symB; rw [hx, Int.toNat_natCast, List.append_assoc]
 rw [he] at st
 refine XR_nil ?_
 refine X_end .nil ?_
 exact (St.reF [_, _, _] 3 st [2, 0, 1] (by decide)).tail
theorem splitY_ok {t : Tok} (h : t.right) (hb : 0 ≤ t.byte ∧ t.byte < 256) : (0 ≤ (splitY t).a.ext ∧ (splitY t).a.ext < 4294967296) ∧ (0 ≤ (splitY t).b.ext ∧ (splitY t).b.ext < 4294967296) ∧ 0 ≤ (splitY t).a.num ∧ (splitY t).a.num < 273 ∧ 0 ≤ (splitY t).b.num ∧ (splitY t).b.num < 30 := by
 obtain ⟨_, h1, h2, _, h3, h4⟩ := join_split h hb
 refine ⟨?_, ?_, h1, h2, h3, h4⟩
 ·unfold splitY
  split
  ·simp
  ·rename_i h0
   unfold Tok.right at h
   rw [if_neg h0] at h
   simp only [klsOf]
   omega
 ·unfold splitY
  split
  ·simp [Kls.nil]
  ·rename_i h0
   unfold Tok.right at h
   rw [if_neg h0] at h
   simp only [klsOf]
   omega
theorem bput_spec {B p n c : Nat} {A : Option Addr} {ts : List Tok} {bs : List Bool} {F : List Res} {h0 : Heap} (st0 : St B h0 h0 (wrR p bs :: F)) (hrB : ∀ h' rs, St B h0 h' (rs ++ F) → Rd h' A (ts.flatMap tokV)) (hl : ts.length = n) (hn : n ≤ 17592186044416) (hby : ∀ t ∈ ts, 0 ≤ t.byte ∧ t.byte < 256) (hbs : bs.length ≤ 1000000) :
  Ret Tryz.prog 16 [.pointer (some ⟨p, 0, none⟩), .slice A n c] h0 fun v h' => v = nV (if rightL ts then 0 else 3) ∧ St B h0 h' (wrR p (bs ++ if rightL ts then blockB (ts.map splitY) else []) :: F) := by
 refine ret_of_X Tryz.func16 rfl rfl fun w0 hw0 => ?_
 simp only [argE, Nat.zero_add, Nat.reduceAdd]
 have st := st0
 refine X_seq (X_reg (XA rfl rfl rfl (XR_nil (X_seq (X_seq (X_reg (XV rfl rfl rfl ?_)))))))
 refine XR_a (op_ptr_nil rfl rfl rfl) rfl rfl ?_
 refine XR_nil (X_else rfl (X_skip (X_seq (X_reg (XV rfl rfl rfl ?_)))))
 refine XR_wa (opl_call (brows_spec (St.start h0) (fun h' hh => (hrB h0 [_] st).ext hh) hl hn hby) rfl (by kernel_rfl)) rfl rfl rfl ?_
 rintro _ hp1 ⟨w, rfl, hyes, hno⟩
 refine XV rfl rfl rfl ?_
 by_cases hR : rightL ts
 ·replace st := st.join (hyes hR)
  rw [decide_eq_true hR, if_pos hR, if_pos hR]
  clear hyes hno
  have hY : ∀ y ∈ ts.map splitY, (0 ≤ y.a.ext ∧ y.a.ext < 4294967296) ∧ (0 ≤ y.b.ext ∧ y.b.ext < 4294967296) ∧ 0 ≤ y.a.num ∧ y.a.num < 273 ∧ 0 ≤ y.b.num ∧ y.b.num < 30 := fun y hy => by
   obtain ⟨t, ht, rfl⟩ := List.mem_map.1 hy
   exact splitY_ok (hR.2 t ht) (hby t ht)
  obtain ⟨ys, hys⟩ : ∃ ys, ts.map splitY = ys := ⟨_, rfl⟩
  have hyl : ys.length = n := by rw [← hys, List.length_map]; exact hl
  have hn6 := hR.1
  rw [hys] at st hY ⊢
  obtain ⟨A1, n1, c1, rfl, hl1, _⟩ := st.row 0 rfl
  rw [flat_length _ 7 (fun _ => rfl)] at hl1
  obtain rfl : n = n1 := by omega
  have hb30 : ∀ y ∈ ys, y.b.num.toNat < 30 := fun y hy => by have := hY y hy; omega
  have hokA := lA_ok ys
  have hokB := lB_ok hb30
  refine XR_a (op_extract rfl rfl) rfl rfl (XR_a (op_extract rfl rfl) rfl rfl (XA rfl rfl rfl (XA rfl rfl rfl (XR_nil (X_seq (X_seq (X_reg (XV rfl rfl rfl ?_))))))))
  first | refine XR_a (op_notd rfl) rfl rfl ?_ | refine XR_a (op_not rfl) rfl rfl ?_
  refine XR_as (.bool false) rfl ?_
  refine XR_nil (X_else rfl (X_skip (X_seq (X_reg (XV rfl rfl rfl ?_)))))
  refine XR_wa (opl_call (bweigh1_spec (St.start hp1) (fun h' hh => (st.rdS 0 rfl).2.ext hh) hyl (by omega) (fun y hy => (hY y hy).2.2)) rfl (by kernel_rfl)) rfl rfl rfl ?_
  rintro _ hp2 ⟨w1, w2, rfl, st2⟩
  replace st := st.join st2
  clear st2
  obtain ⟨Aa, na, ca, rfl, hla, _⟩ := st.row 0 rfl
  obtain ⟨Ab, nb, cb, rfl, hlb, _⟩ := st.row 1 rfl
  rw [List.length_map, firstW_len, Nat.mul_one] at hla
  rw [List.length_map, secondW_len, Nat.mul_one] at hlb
  subst hla hlb
  replace st := St.reF [_, _, _, _] 4 st [3, 0, 1, 2] (by decide)
  simp only [List.map_cons, List.map_nil, getR, List.cons_append, List.nil_append] at st
  refine XV rfl rfl rfl (XR_a (op_extract rfl rfl) rfl rfl (XR_a (op_extract rfl rfl) rfl rfl (XA rfl rfl rfl (XA rfl rfl rfl (XR_nil (X_seq (X_reg (XV rfl rfl rfl (XV rfl rfl rfl ?_)))))))))
  refine XR_wa (opl_call (btable_spec st.here (fun h' rs hs => hs.rdM (List.mem_append_right _ List.mem_cons_self)) (firstW_len ys) (by omega) (by omega) (fun x hx => by have := firstW_le ys x hx; omega) (firstW_syms ys) (by omega)) rfl (by kernel_rfl)) rfl rfl rfl ?_
  rintro _ hp3 ⟨q1, rfl, st3⟩
  replace st := st.trans st3
  clear st3
  rw [show lensW (firstW ys) = lA ys from rfl] at st
  have hlA := putR_len hokA
  rw [show (lA ys).length = 273 by unfold lA; rw [lensW_length, firstW_len]] at hlA
  refine XV rfl rfl rfl (XV rfl rfl rfl ?_)
  refine XR_wa (opl_call (btable_spec st.here (fun h' rs hs => hs.rdM (List.mem_append_right _ (List.mem_cons_of_mem _ (List.mem_cons_of_mem _ List.mem_cons_self)))) (secondW_len ys) (by omega) (by omega) (fun x hx => by have := secondW_le ys x hx; omega) (secondW_syms hb30) (by rw [List.length_append]; omega)) rfl (by kernel_rfl)) rfl rfl rfl ?_
  rintro _ hp4 ⟨q2, rfl, st3⟩
  replace st := st.trans st3
  clear st3
  rw [show lensW (secondW ys) = lB ys from rfl] at st
  have hlB := putR_len hokB
  rw [show (lB ys).length = 30 by unfold lB; rw [lensW_length, secondW_len]] at hlB
  replace st := (St.reF [_, _, _, _, _, _] 6 st [3, 4, 0, 2, 1, 5] (by decide)).tail.tail
  simp only [List.map_cons, List.map_nil, getR, List.cons_append, List.nil_append] at st
  obtain ⟨la, hla⟩ : ∃ x, lA ys = x := ⟨_, rfl⟩
  obtain ⟨lb, hlb⟩ : ∃ x, lB ys = x := ⟨_, rfl⟩
  have hbl : blockB ys = putR la ++ putR lb ++ ys.flatMap (syB la lb) ++ codeBits (val la 256) (lenAt la 256) := by unfold blockB; rw [hla, hlb]
  rw [hla] at st hokA hlA
  rw [hlb] at st hokB hlB
  rw [hbl]
  have hfl := fun i => flat_bd (syB la lb) 94 (syB_len hokA hokB) (ys.take i)
  refine XA rfl rfl rfl (XA rfl rfl rfl (XR_nil (X_seq (X_seq (X_reg (XV rfl rfl rfl ?_))))))
  refine XR_a (op_len rfl rfl rfl) rfl rfl ?_
  refine XV rfl rfl rfl (XR_nil (X_block ?_))
  refine X_loop (fun i => n - i) (fun i => [(0, .pointer (some ⟨p, 0, none⟩)), (9, .pointer (some ⟨q1, 0, none⟩)), (10, .pointer (some ⟨q2, 0, none⟩)), (33, .slice A1 n c1), (34, nV n), (35, nV i)])
   (fun (i : Nat) hp => i ≤ n ∧ St B h0 hp (wrR p (bs ++ putR la ++ putR lb ++ (ys.take i).flatMap (syB la lb)) :: codeR q1 la :: codeR q2 lb :: row 94 7 (.slice A1 n c1) (ys.flatMap syV) :: F))
   0 (.cons rfl (.cons rfl (.cons rfl (.cons rfl (.cons rfl (.cons rfl (.nil _))))))) ⟨Nat.zero_le _, by rw [List.take_zero, List.flatMap_nil, List.append_nil]; exact st⟩ ?_
  clear st
  rintro i hp ⟨hi, st⟩
  have hfi := hfl i
  rw [List.length_take] at hfi
  refine X_seq (X_reg ?_)
  refine XR_a (op_lss rfl rfl) rfl rfl ?_
  refine XR_nil (X_seq ?_)
  refine X_if rfl (fun h => ?_) (fun h => ?_)
  ·have hil : i < ys.length := by omega
   obtain ⟨y, hy⟩ : ∃ y, ys[i] = y := ⟨_, rfl⟩
   have hyo := hY y (hy ▸ List.getElem_mem hil)
   obtain ⟨gy, oy, rfl, hcy⟩ := Rd.flat syV 7 (st.rdS 3 rfl).2 (fun _ => rfl) (by omega) (by omega)
   have hcx := hcy i hil
   rw [hy] at hcx
   have htk : (ys.take (i + 1)).flatMap (syB la lb) = (ys.take i).flatMap (syB la lb) ++ syB la lb y := by rw [List.take_succ_eq_append_getElem hil, hy, List.flatMap_append]; simp
   refine X_skip (X_seq (X_block (X_seq (X_reg ?_))))
   refine XR_a (op_index (i := i) rfl rfl rfl (by omega)) rfl rfl ?_
   refine XR_a (op_ldA (vs := syV y) hcx rfl rfl rfl rfl) rfl rfl ?_
   refine XR_wa (opl_new rfl) rfl rfl rfl ?_
   rintro _ hp5 ⟨p12, rfl, hnew⟩
   replace st := st.new hnew
   refine XR_wn (opl_store_whole (us := syV y) st 0 rfl rfl rfl rfl rfl (syV_one _) rfl) rfl rfl fun _ hp6 st => ?_
   simp only [List.set_cons_zero, List.set_cons_succ] at st
   refine XR_nil (X_seq (X_reg (XV rfl rfl rfl (XV rfl rfl rfl ?_))))
   first | refine XR_a (op_field0 rfl rfl) rfl rfl ?_ | refine XR_a (op_fieldn rfl rfl) rfl rfl ?_
   refine XR_a (op_ldA (vs := clsV y.a) (st.part 0 0 [] (clsV y.a) (clsV y.b ++ [.bool y.m]) rfl rfl) rfl rfl rfl rfl) rfl rfl ?_
   replace st := St.reF [_, _, _, _, _] 5 st [1, 2, 0, 3, 4] (by decide)
   simp only [List.map_cons, List.map_nil, getR, List.cons_append, List.nil_append] at st
   refine XR_wa (opl_call (bone_spec st.here hokA hyo.1 (by simp only [List.length_append]; omega)) rfl (by kernel_rfl)) rfl rfl rfl ?_
   rintro _ hp7 st2
   replace st := st.trans st2
   clear st2
   refine XR_nil (X_seq (X_reg ?_))
   first | refine XR_a (op_field0 rfl rfl) rfl rfl ?_ | refine XR_a (op_fieldn rfl rfl) rfl rfl ?_
   refine XR_a (op_ld (st.cell 2 (i := 6) rfl rfl) rfl rfl rfl) rfl rfl ?_
   refine XR_as (.bool (decide (y.m = true))) (congrArg Value.bool (by cases y.m <;> rfl)) ?_
   refine XR_nil ?_
   refine X_if rfl (fun h => ?_) (fun h => ?_)
   ·refine X_reg (XV rfl rfl rfl (XV rfl rfl rfl ?_))
    first | refine XR_a (op_field0 rfl rfl) rfl rfl ?_ | refine XR_a (op_fieldn rfl rfl) rfl rfl ?_
    refine XR_a (op_ldA (vs := clsV y.b) (st.part 2 3 (clsV y.a) (clsV y.b) [.bool y.m] rfl rfl) rfl rfl rfl rfl) rfl rfl ?_
    replace st := St.reF [_, _, _, _, _] 5 st [0, 3, 1, 2, 4] (by decide)
    simp only [List.map_cons, List.map_nil, getR, List.cons_append, List.nil_append] at st
    have hsl := symB_len hokA y.a
    refine XR_wa (opl_call (bone_spec st.here hokB hyo.2.1 (by simp only [List.length_append]; omega)) rfl (by kernel_rfl)) rfl rfl rfl ?_
    rintro _ hp8 st2
    replace st := st.trans st2
    clear st2
    refine XR_nil (X_blk (X_reg ?_))
    first | refine XR_a (op_addN (n := 1) rfl rfl (by simp only [inK]; omega)) rfl rfl ?_ | refine XR_a (op_addI rfl rfl (by simp only [inK]; omega)) rfl rfl ?_ | refine XR_a (op_add rfl rfl) rfl rfl ?_
    refine XV rfl rfl rfl (XR_nil ?_)
    have he : bs ++ putR la ++ putR lb ++ (ys.take i).flatMap (syB la lb) ++ symB la y.a ++ symB lb y.b = bs ++ putR la ++ putR lb ++ (ys.take (i + 1)).flatMap (syB la lb) := by
     rw [htk]; unfold syB; rw [if_pos h]; simp only [List.append_assoc]
    rw [he] at st
    replace st := (St.reF [_, _, _, _, _] 5 st [3, 0, 2, 1, 4] (by decide)).tail
    exact X_again (i + 1) (.cons rfl (.cons rfl (.cons rfl (.cons rfl (.cons rfl (.cons rfl (.nil _))))))) ⟨by omega, st⟩ (by omega)
   ·refine X_skip (X_blk (X_reg ?_))
    first | refine XR_a (op_addN (n := 1) rfl rfl (by simp only [inK]; omega)) rfl rfl ?_ | refine XR_a (op_addI rfl rfl (by simp only [inK]; omega)) rfl rfl ?_ | refine XR_a (op_add rfl rfl) rfl rfl ?_
    refine XV rfl rfl rfl (XR_nil ?_)
    have he : bs ++ putR la ++ putR lb ++ (ys.take i).flatMap (syB la lb) ++ symB la y.a = bs ++ putR la ++ putR lb ++ (ys.take (i + 1)).flatMap (syB la lb) := by
     rw [htk]; unfold syB; rw [if_neg h, List.append_nil]; simp only [List.append_assoc]
    rw [he] at st
    replace st := (St.reF [_, _, _, _, _] 5 st [2, 0, 1, 3, 4] (by decide)).tail
    exact X_again (i + 1) (.cons rfl (.cons rfl (.cons rfl (.cons rfl (.cons rfl (.cons rfl (.nil _))))))) ⟨by omega, st⟩ (by omega)
  ·rw [List.take_of_length_le (by omega)] at st hfi
   refine X_exit rfl (X_seq (X_reg (XV rfl rfl rfl (XV rfl rfl rfl ?_))))
   refine XR_wa (opl_call (cput_spec (s := 256) st.here hokA (by simp only [List.length_append]; omega)) rfl (by kernel_rfl)) rfl rfl rfl ?_
   rintro _ hp9 ⟨rfl, st2⟩
   replace st := st.trans st2
   clear st2
   refine XR_nil (X_seq (X_reg (XA rfl rfl rfl (XR_nil ?_))))
   refine X_ret (.cons (.tmp rfl) .nil) ?_
   have he : bs ++ putR la ++ putR lb ++ ys.flatMap (syB la lb) ++ codeBits (val la (256 : Int).toNat) (lenAt la 256) = bs ++ (putR la ++ putR lb ++ ys.flatMap (syB la lb) ++ codeBits (val la 256) (lenAt la 256)) := by
    simp only [List.append_assoc]; rfl
   rw [he] at st
   exact ⟨rfl, (St.reF [_, _, _, _] 4 st [1, 2, 3, 0] (by decide)).tail.tail.tail⟩
 ·replace st := st.ext (hno hR).low
  rw [decide_eq_false hR, if_neg hR, if_neg hR]
  clear hyes hno
  refine XR_a (op_extract rfl rfl) rfl rfl (XR_a (op_extract rfl rfl) rfl rfl (XA rfl rfl rfl (XA rfl rfl rfl (XR_nil (X_seq (X_seq (X_reg (XV rfl rfl rfl ?_))))))))
  first | refine XR_a (op_notd rfl) rfl rfl ?_ | refine XR_a (op_not rfl) rfl rfl ?_
  refine XR_as (.bool true) rfl ?_
  refine XR_nil (X_then rfl (X_seq (X_reg (XA rfl rfl rfl (XR_nil ?_)))))
  refine X_ret (.cons (.tmp rfl) .nil) ?_
  rw [List.append_nil]
  exact ⟨rfl, st⟩
end Go.Bn
end

section
set_option linter.unusedVariables false
set_option linter.unusedSimpArgs false
set_option maxHeartbeats 4000000
set_option maxRecDepth 20000
namespace Go.Bn
open Go Proofs
section
variable {P : Program} {E : Env} {hp : Heap} {cl : Cls} {d : Option Tmp} {ty : TypeId} {pos : String} {af : Array Edge} {g : Option (Nat × Bool)} {x : Operand} {t : TypeId}
end
theorem blockB_len {ys : List Sy} (hb : ∀ y ∈ ys, y.b.num.toNat < 30) : (blockB ys).length ≤ 7000 + 94 * ys.length := by
 have hA := lA_ok ys
 have hB := lB_ok hb
 have h1 := putR_len hA
 have h2 := putR_len hB
 have h3 := flat_bd (syB (lA ys) (lB ys)) 94 (syB_len hA hB) ys
 have h4 := lens_le hA 256
 rw [lA_len] at h1
 rw [lB_len] at h2
 unfold blockB
 simp only [List.length_append, codeBits_length]
 omega
theorem split_b30 {ts : List Tok} (hR : rightL ts) (hby : ∀ t ∈ ts, 0 ≤ t.byte ∧ t.byte < 256) : ∀ y ∈ ts.map splitY, y.b.num.toNat < 30 := fun y hy => by
 obtain ⟨t, ht, rfl⟩ := List.mem_map.1 hy
 have := splitY_ok (hR.2 t ht) (hby t ht)
 omega
end Go.Bn
end

section
set_option linter.unusedVariables false
set_option linter.unusedSimpArgs false
set_option maxHeartbeats 4000000
set_option maxRecDepth 20000
namespace Go.Bn
open Go Proofs
noncomputable def packP (b : List UInt8) (lv : Int) : Nat × List UInt8 :=
  if 0 ≤ lv ∧ (pack (blockB ((splitL b lv).map splitY))).length < b.length then (1, pack (blockB ((splitL b lv).map splitY))) else (0, b)
theorem piecesF_err : ∀ (f : Nat) (l out : List UInt8), 0 ≤ (piecesF f l out).2
 | 0, _, _ => by rw [piecesF]; decide
 | f + 1, l, out => by
  rw [piecesF]
  split
  ·decide
  ·split
   ·decide
   ·split
    ·split
     ·decide
     ·exact Int.le_refl 0
    ·exact piecesF_err f _ _
theorem pieces_err (l : List UInt8) : 0 ≤ (pieces l).2 := piecesF_err _ _ _
theorem piecesF_len : ∀ (f : Nat) (l out : List UInt8), (piecesF f l out).1.length ≤ out.length + l.length
 | 0, _, _ => by rw [piecesF]; simp
 | f + 1, l, out => by
  rw [piecesF]
  split
  ·simp
  ·split
   ·simp
   ·split
    ·split
     ·simp
     ·simp
    ·have := piecesF_len f (l.drop (2 + leV (l.take 2))) (out ++ (l.drop 2).take (leV (l.take 2)))
     rw [List.length_append, List.length_take, List.length_drop, List.length_drop] at this
     omega
theorem pieces_len (l : List UInt8) : (pieces l).1.length ≤ l.length := by
 have := piecesF_len (l.length + 1) l []
 simpa [pieces] using this
theorem splitL_blen {b : List UInt8} (lv : Int) (hb : b.length ≤ 65536) : (blockB ((splitL b lv).map splitY)).length ≤ 7000 + 94 * b.length := by
 obtain ⟨hR, hby, _, _, hle, _⟩ := splitL_ok (b := b) lv hb
 have := blockB_len (split_b30 hR hby)
 rw [List.length_map] at this
 omega
theorem csmall_spec (x : Int) (h0 : Heap) : Ret Tryz.prog 52 [.int .i64 x] h0 fun v h' => v = .bool (decide (0 ≤ x ∧ x ≤ 65536)) ∧ h0 = h' := by
 refine ret_of_X Tryz.func52 rfl rfl fun w0 hw0 => ?_
 simp only [argE, Nat.zero_add, Nat.reduceAdd]
 refine X_seq (X_reg (XA rfl rfl rfl (XR_nil (X_seq (X_reg (XV rfl rfl rfl ?_))))))
 refine XR_a (op_geq rfl rfl) rfl rfl ?_
 refine XV rfl rfl rfl ?_
 refine XR_if 5 rfl (fun h => ?_) (fun h => ?_)
 ·refine XV rfl rfl rfl ?_
  refine XR_a (op_leq rfl rfl) rfl rfl ?_
  refine XR_a (op_pick_t rfl rfl) rfl rfl (XA rfl rfl rfl (XR_nil ?_))
  refine X_ret (.cons (.tmp rfl) .nil) ?_
  first
   | exact ⟨congrArg Value.bool (decide_eq_decide.2 ⟨fun hh => by omega, fun hh => by omega⟩), rfl⟩
   | exact ⟨congrArg Value.bool (decide_eq_false (by omega)).symm, rfl⟩
 ·refine XR_no rfl rfl (XR_no rfl rfl (XR_a (op_pick_f rfl rfl) rfl rfl (XA rfl rfl rfl (XR_nil ?_))))
  refine X_ret (.cons (.tmp rfl) .nil) ?_
  first
   | exact ⟨congrArg Value.bool (decide_eq_decide.2 ⟨fun hh => by omega, fun hh => by omega⟩), rfl⟩
   | exact ⟨congrArg Value.bool (decide_eq_false (by omega)).symm, rfl⟩
theorem cpack_spec {n c : Nat} {lv : Int} {A : Option Addr} {b : List UInt8} {h0 : Heap} (hr : Rd h0 A (b.map byteV)) (hl : b.length = n) (hn : n ≤ 65536) :
  Ret Tryz.prog 26 [.slice A n c, .int .i64 lv] h0 fun v h' => ∃ w, v = retVal [nV (packP b lv).1, w, nV 0] ∧ St h0.size h0 h' [row 5 1 w ((packP b lv).2.map byteV)] := by
 obtain ⟨K, hK⟩ : ∃ K, packP b lv = K := ⟨_, rfl⟩
 rw [hK]
 unfold packP at hK
 refine ret_of_X Tryz.func26 rfl rfl fun w0 hw0 => ?_
 simp only [argE, Nat.zero_add, Nat.reduceAdd]
 have st := St.start h0
 refine X_seq (X_reg (XA rfl rfl rfl (XA rfl rfl rfl (XA rfl rfl rfl (XR_nil (X_seq (X_seq (X_reg (XV rfl rfl rfl ?_)))))))))
 refine XR_a (op_len rfl rfl rfl) rfl rfl ?_
 refine XR_wa (opl_call (csmall_spec _ _) rfl (by kernel_rfl)) rfl rfl rfl ?_
 rintro _ _ ⟨rfl, rfl⟩
 rw [decide_eq_true (by omega)]
 refine XR_a (op_not rfl) rfl rfl ?_
 refine XR_as (.bool false) rfl ?_
 refine XR_nil (X_else rfl (X_skip (X_seq (X_seq (X_reg (XV rfl rfl rfl ?_))))))
 refine XR_a (op_geq rfl rfl) rfl rfl ?_
 refine XR_nil ?_
 refine X_if rfl (fun h => ?_) (fun h => ?_)
 ·refine X_seq (X_reg ?_)
  refine XR_wa (opl_new rfl) rfl rfl rfl ?_
  rintro _ hp ⟨p7, rfl, hnew⟩
  replace st := (st.new hnew).wr0
  refine XR_nil (X_seq (X_reg (XV rfl rfl rfl (XV rfl rfl rfl ?_))))
  refine XR_wa (opl_call (tsplit_spec (hr.ext st.low) hl (by omega)) rfl (by kernel_rfl)) rfl rfl rfl ?_
  rintro v16 hp2 st2
  obtain ⟨hR, hby, hdO, hsz, hle, _⟩ := splitL_ok (b := b) lv (by omega)
  have hbl := splitL_blen (b := b) lv (by omega)
  replace st := (st.join st2).perm (List.Perm.swap _ _ _)
  clear st2
  obtain ⟨A16, n16, c16, rfl, hl16, _⟩ := st.row 1 rfl
  rw [flat_length _ 3 (fun _ => rfl)] at hl16
  refine XR_wa (opl_call (bput_spec st.here (fun h' rs hs => hs.rdM (List.mem_append_right _ List.mem_cons_self)) (show (splitL b lv).length = n16 by omega) (by omega) hby (by simp)) rfl (by kernel_rfl)) rfl rfl rfl ?_
  rintro _ hp3 ⟨rfl, st3⟩
  rw [if_pos hR, List.nil_append] at st3
  replace st := st.trans st3
  clear st3
  have hpl := pack_length (blockB ((splitL b lv).map splitY))
  obtain ⟨BL, hBL⟩ : ∃ BL, blockB ((splitL b lv).map splitY) = BL := ⟨_, rfl⟩
  rw [hBL] at st hK hbl hpl
  refine XR_nil (X_seq (X_reg ?_))
  refine XR_wa (opl_call (wlen_spec st.here (by omega)) rfl (by kernel_rfl)) rfl rfl rfl ?_
  rintro _ _ ⟨rfl, rfl⟩
  first | refine XR_a (op_addN (n := 7) rfl rfl (by simp only [inK]; omega)) rfl rfl ?_ | refine XR_a (op_addI rfl rfl (by simp only [inK]; omega)) rfl rfl ?_ | refine XR_a (op_add rfl rfl) rfl rfl ?_
  first | refine XR_a (op_quoN (n := 8) rfl rfl (by omega) (by simp only [inK]; omega)) rfl rfl ?_ | refine XR_a (op_quoI rfl rfl (by omega) (by omega) (by simp only [inK]; omega)) rfl rfl ?_ | refine XR_a (op_quo rfl rfl (by omega)) rfl rfl ?_
  refine XV rfl rfl rfl ?_
  refine XR_a (op_len rfl rfl rfl) rfl rfl ?_
  refine XR_a (op_lss rfl rfl) rfl rfl ?_
  refine XR_nil ?_
  refine X_if rfl (fun h => ?_) (fun h => ?_)
  ·rw [if_pos ⟨by omega, by omega⟩] at hK
   subst hK
   refine X_seq (X_reg ?_)
   refine XR_wa (opl_call (wbytes_spec st.here (by omega)) rfl (by kernel_rfl)) rfl rfl rfl ?_
   rintro v24 hp5 st5
   refine XA rfl rfl rfl (XA rfl rfl rfl (XA rfl rfl rfl (XR_nil ?_)))
   refine X_ret (.cons (.tmp rfl) (.cons (.tmp rfl) (.cons (.tmp rfl) .nil))) ?_
   exact ⟨_, rfl, (st.join st5).keep 1⟩
  ·rw [if_neg (by omega)] at hK
   subst hK
   refine X_skip (X_seq (X_reg ?_))
   refine XR_wa (opl_lit0 rfl) rfl rfl rfl ?_
   rintro v25 hp hnew
   replace st := st.new hnew
   refine XV rfl rfl rfl ?_
   refine XR_wa (opl_append st 0 rfl (hr.ext st.low) (by simpa using hl) (one_bytes _) (by simp; omega) rfl rfl rfl rfl rfl rfl rfl) rfl rfl rfl fun v hp st => ?_
   simp only [List.set_cons_zero, List.set_cons_succ] at st
   rw [List.nil_append] at st
   refine XA rfl rfl rfl (XA rfl rfl rfl (XA rfl rfl rfl (XR_nil ?_)))
   refine X_ret (.cons (.tmp rfl) (.cons (.tmp rfl) (.cons (.tmp rfl) .nil))) ?_
   exact ⟨_, rfl, st.keep 1⟩
 ·rw [if_neg (by omega)] at hK
  subst hK
  refine X_skip (X_seq (X_reg ?_))
  refine XR_wa (opl_lit0 rfl) rfl rfl rfl ?_
  rintro v25 hp hnew
  replace st := st.new hnew
  refine XV rfl rfl rfl ?_
  refine XR_wa (opl_append st 0 rfl (hr.ext st.low) (by simpa using hl) (one_bytes _) (by simp; omega) rfl rfl rfl rfl rfl rfl rfl) rfl rfl rfl fun v hp st => ?_
  simp only [List.set_cons_zero, List.set_cons_succ] at st
  rw [List.nil_append] at st
  refine XA rfl rfl rfl (XA rfl rfl rfl (XA rfl rfl rfl (XR_nil ?_)))
  refine X_ret (.cons (.tmp rfl) (.cons (.tmp rfl) (.cons (.tmp rfl) .nil))) ?_
  exact ⟨_, rfl, st.keep 1⟩
theorem cpacked_spec {m c size : Nat} {A : Option Addr} {l : List UInt8} {h0 : Heap} (hr : Rd h0 A (l.map byteV)) (hl : l.length = m) (hm : m ≤ 1048576) (hs : size ≤ 65536) :
  Ret Tryz.prog 53 [.slice A m c, nV size] h0 fun v h' => ∃ w, v = retVal [w, nV (unpackU 1 l size).2] ∧ St h0.size h0 h' [row 5 1 w ((unpackU 1 l size).1.map byteV)] := by
 obtain ⟨U, hU⟩ : ∃ U, unpackU 1 l size = U := ⟨_, rfl⟩
 rw [hU]
 unfold unpackU at hU
 have hok := blockT_ok (bs := bitsB l) (most := (size : Int)) (by omega)
 have hbl := bitsB_length l
 obtain ⟨T, hT⟩ : ∃ T, blockT (bitsB l) size = T := ⟨_, rfl⟩
 rw [hT] at hU hok
 rw [if_neg (by omega), if_neg (by omega), if_pos rfl] at hU
 refine ret_of_X Tryz.func53 rfl rfl fun w0 hw0 => ?_
 simp only [argE, Nat.zero_add, Nat.reduceAdd]
 refine X_seq (X_reg (XA rfl rfl rfl (XA rfl rfl rfl (XR_nil (X_seq (X_reg (XV rfl rfl rfl ?_)))))))
 refine XR_wa (opl_call (rnew_spec) rfl (by kernel_rfl)) rfl rfl rfl ?_
 rintro _ hp1 ⟨q, rfl, st⟩
 refine XA rfl rfl rfl (XR_nil (X_seq (X_reg (XV rfl rfl rfl (XV rfl rfl rfl ?_)))))
 refine XR_wa (opl_call (btake_spec (most := (size : Int)) st.here (fun h' hh => hr.ext (st.low.trans hh)) hl (by omega) (by simp only [inK]; omega)) rfl (by kernel_rfl)) rfl rfl rfl ?_
 rintro _ hp2 ⟨w, a', rfl, ha', hat, st2⟩
 rw [hT] at st2 hat ⊢
 replace st := st.trans st2
 clear st2
 refine XV rfl rfl rfl (XR_a (op_extract rfl rfl) rfl rfl (XR_a (op_extract rfl rfl) rfl rfl (XA rfl rfl rfl (XA rfl rfl rfl (XR_nil (X_seq (X_seq (X_reg (XV rfl rfl rfl ?_)))))))))
 refine XR_a (op_neq rfl rfl) rfl rfl ?_
 refine XR_nil ?_
 refine X_if rfl (fun h => ?_) (fun h => ?_)
 ·rw [if_pos (by omega)] at hU
  subst hU
  refine X_seq (X_reg (XV rfl rfl rfl (XA rfl rfl rfl (XA rfl rfl rfl (XR_nil ?_)))))
  refine X_ret (.cons (.tmp rfl) (.cons (.tmp rfl) .nil)) ?_
  exact ⟨_, rfl, (st.nilrow 5 1).keep 1⟩
 ·have hT0 : T.2.2.2 = 0 := by omega
  rw [if_neg (by omega)] at hU
  obtain ⟨hk, hk2, hk3, hk4, hk5⟩ := hok hT0
  have ha2 := hat hT0
  subst ha2
  obtain ⟨A7, n7, c7, rfl, hl7, _, _, hr7⟩ := st.row 1 rfl
  rw [flat_length _ 3 (fun _ => rfl)] at hl7
  refine X_skip (X_seq (X_reg (XV rfl rfl rfl (XV rfl rfl rfl ?_))))
  refine XR_wa (opl_call (texpand_spec (most := size) hr7 (show T.1.length = n7 by omega) (by omega) hk (by omega) (by omega)) rfl (by kernel_rfl)) rfl rfl rfl ?_
  rintro _ hp3 ⟨w9, rfl, st3⟩
  replace st := st.join st3
  simp only [List.cons_append, List.nil_append] at st
  clear st3
  have hxl := expL_length (ts := T.1) [] fun t ht => (hk.ok t ht).1
  obtain ⟨A9, n9, c9, rfl, hl9, _⟩ := st.row 0 rfl
  rw [List.length_map, Nat.mul_one, hxl, List.length_nil, Nat.zero_add] at hl9
  refine XV rfl rfl rfl (XR_a (op_extract rfl rfl) rfl rfl (XR_a (op_extract rfl rfl) rfl rfl (XA rfl rfl rfl (XA rfl rfl rfl (XR_nil (X_seq (X_block (X_seq (X_reg ?_)))))))))
  refine XV rfl rfl rfl ?_
  refine XR_a (op_neq rfl rfl) rfl rfl ?_
  refine XR_as (.bool false) (congrArg Value.bool (decide_eq_false (by decide))) ?_
  refine XA rfl rfl rfl (XR_nil (X_else rfl (X_seq (X_reg (XV rfl rfl rfl ?_)))))
  refine XR_a (op_len rfl rfl rfl) rfl rfl ?_
  refine XV rfl rfl rfl ?_
  refine XR_a (op_neq rfl rfl) rfl rfl ?_
  refine XA rfl rfl rfl (XR_nil ?_)
  refine X_if rfl (fun h => ?_) (fun h => ?_)
  ·rw [if_pos (by omega)] at hU
   subst hU
   refine X_seq (X_reg (XA rfl rfl rfl (XA rfl rfl rfl (XR_nil ?_))))
   refine X_ret (.cons (.tmp rfl) (.cons (.tmp rfl) .nil)) ?_
   exact ⟨_, rfl, (st.nilrow 5 1).keep 1⟩
  ·rw [if_neg (by omega)] at hU
   refine X_seq (X_reg (XV rfl rfl rfl ?_))
   refine XR_wa (opl_call (rleft_spec (st.cell 1 (i := 0) rfl rfl) (st.cell 1 (i := 1) rfl rfl) (by omega) ha') rfl (by kernel_rfl)) rfl rfl rfl ?_
   rintro _ _ ⟨rfl, rfl⟩
   refine XR_a (op_geq rfl rfl) rfl rfl ?_
   refine XV rfl rfl rfl ?_
   refine XR_if 40 rfl (fun h => ?_) (fun h => ?_)
   ·rw [if_pos (.inl (by omega))] at hU
    subst hU
    refine XR_no rfl rfl (XR_no rfl rfl (XR_no rfl rfl (XR_a (op_pick_t rfl rfl) rfl rfl (XA rfl rfl rfl (XR_nil (X_then rfl (X_seq (X_reg (XA rfl rfl rfl ?_)))))))))
    refine XA rfl rfl rfl (XR_nil ?_)
    refine X_ret (.cons (.tmp rfl) (.cons (.tmp rfl) .nil)) ?_
    exact ⟨_, rfl, (st.nilrow 5 1).keep 1⟩
   ·refine XV rfl rfl rfl ?_
    refine XR_wa (opl_call (rpeek_spec (k := 8) (st.cell 1 (i := 0) rfl rfl) (st.cell 1 (i := 1) rfl rfl) (hr.ext st.low) hl (by omega) ha') rfl (by kernel_rfl)) rfl rfl rfl ?_
    rintro _ _ ⟨rfl, rfl⟩
    rw [show wd 32 8 = 8 from rfl]
    refine XR_a (op_neq rfl rfl) rfl rfl ?_
    refine XR_a (op_pick_f rfl rfl) rfl rfl (XA rfl rfl rfl (XR_nil ?_))
    refine X_if rfl (fun h => ?_) (fun h => ?_)
    ·rw [if_pos (.inr (by omega))] at hU
     subst hU
     refine X_seq (X_reg (XA rfl rfl rfl (XA rfl rfl rfl (XR_nil ?_))))
     refine X_ret (.cons (.tmp rfl) (.cons (.tmp rfl) .nil)) ?_
     exact ⟨_, rfl, (st.nilrow 5 1).keep 1⟩
    ·rw [if_neg (by omega)] at hU
     subst hU
     refine X_skip (X_blk (X_seq (X_reg (XV rfl rfl rfl (XA rfl rfl rfl (XA rfl rfl rfl (XR_nil ?_)))))))
     refine X_ret (.cons (.tmp rfl) (.cons (.tmp rfl) .nil)) ?_
     exact ⟨_, rfl, st.keep 1⟩
theorem cunpack_spec {m c : Nat} {mt size : Int} {A : Option Addr} {l : List UInt8} {h0 : Heap} (hr : Rd h0 A (l.map byteV)) (hl : l.length = m) (hm : m ≤ 1048576) (hmc : m ≤ c) :
  Ret Tryz.prog 24 [.int .i64 mt, .slice A m c, .int .i64 size] h0 fun v h' => ∃ w, v = retVal [w, nV (unpackU mt l size).2] ∧ St h0.size h0 h' [row 5 1 w ((unpackU mt l size).1.map byteV)] := by
 obtain ⟨U, hU⟩ : ∃ U, unpackU mt l size = U := ⟨_, rfl⟩
 have hUU := hU
 rw [hU]
 unfold unpackU at hU
 have hpe := pieces_err l
 have hpl := pieces_len l
 refine ret_of_X Tryz.func24 rfl rfl fun w0 hw0 => ?_
 simp only [argE, Nat.zero_add, Nat.reduceAdd]
 have st := St.start h0
 refine X_seq (X_reg (XA rfl rfl rfl (XA rfl rfl rfl (XR_nil (X_seq (X_seq (X_reg (XV rfl rfl rfl ?_))))))))
 refine XR_a (op_lss rfl rfl) rfl rfl ?_
 refine XV rfl rfl rfl ?_
 refine XR_if 12 rfl (fun h => ?_) (fun h => ?_)
 ·rw [if_pos (by omega)] at hU
  subst hU
  refine XR_no rfl rfl (XR_no rfl rfl (XR_a (op_pick_t rfl rfl) rfl rfl (XR_nil (X_then rfl (X_seq (X_reg (XA rfl rfl rfl (XA rfl rfl rfl (XR_nil ?_)))))))))
  refine X_ret (.cons (.tmp rfl) (.cons (.tmp rfl) .nil)) ?_
  exact ⟨_, rfl, (st.nilrow 5 1).keep 1⟩
 ·refine XV rfl rfl rfl ?_
  refine XR_a (op_gtr rfl rfl) rfl rfl ?_
  refine XR_a (op_pick_f rfl rfl) rfl rfl (XR_nil ?_)
  refine X_if rfl (fun h => ?_) (fun h => ?_)
  ·rw [if_pos (by omega)] at hU
   subst hU
   refine X_seq (X_reg (XA rfl rfl rfl (XA rfl rfl rfl (XR_nil ?_))))
   refine X_ret (.cons (.tmp rfl) (.cons (.tmp rfl) .nil)) ?_
   exact ⟨_, rfl, (st.nilrow 5 1).keep 1⟩
  ·rw [if_neg (by omega)] at hU
   refine X_skip (X_seq (X_seq (X_reg (XV rfl rfl rfl ?_))))
   refine XR_wa (opl_call (csmall_spec _ _) rfl (by kernel_rfl)) rfl rfl rfl ?_
   rintro _ _ ⟨rfl, rfl⟩
   first | refine XR_a (op_notd rfl) rfl rfl ?_ | refine XR_a (op_not rfl) rfl rfl ?_
   refine XR_nil ?_
   refine X_if rfl (fun h => ?_) (fun h => ?_)
   ·rw [if_pos (by omega)] at hU
    subst hU
    refine X_seq (X_reg (XA rfl rfl rfl (XA rfl rfl rfl (XR_nil ?_))))
    refine X_ret (.cons (.tmp rfl) (.cons (.tmp rfl) .nil)) ?_
    exact ⟨_, rfl, (st.nilrow 5 1).keep 1⟩
   ·rw [if_neg (by omega)] at hU
    obtain ⟨s, rfl⟩ : ∃ s : Nat, size = (s : Int) := ⟨size.toNat, by omega⟩
    refine X_skip (X_seq (X_reg (XV rfl rfl rfl (XA rfl rfl rfl (XA rfl rfl rfl (XR_nil (X_seq (X_seq (X_reg ?_)))))))))
    refine XV rfl rfl rfl (XR_nil (X_block (X_seq (X_reg ?_))))
    refine XR_a (op_eql rfl rfl) rfl rfl ?_
    refine XA rfl rfl rfl (XR_nil ?_)
    refine X_if rfl (fun h => ?_) (fun h => ?_)
    ·obtain rfl : mt = 1 := h
     refine X_seq (X_reg (XV rfl rfl rfl (XV rfl rfl rfl ?_)))
     refine XR_wa (opl_call (cpacked_spec (size := s) hr hl hm (by omega)) rfl (by kernel_rfl)) rfl rfl rfl ?_
     rintro _ hp2 ⟨w, rfl, st2⟩
     rw [hUU] at st2 ⊢
     refine XR_a (op_extract rfl rfl) rfl rfl (XR_a (op_extract rfl rfl) rfl rfl (XA rfl rfl rfl (XA rfl rfl rfl (XR_nil ?_))))
     refine X_ret (.cons (.tmp rfl) (.cons (.tmp rfl) .nil)) ?_
     exact ⟨_, rfl, st2⟩
    ·rw [if_neg (by omega)] at hU
     refine X_seq (X_reg ?_)
     refine XR_a (op_eql rfl rfl) rfl rfl ?_
     refine XA rfl rfl rfl (XR_nil ?_)
     refine X_if rfl (fun h => ?_) (fun h => ?_)
     ·rw [if_pos (by omega)] at hU
      refine X_reg (XV rfl rfl rfl ?_)
      refine XR_wa (opl_call (pieces_spec hr hl (by omega) hmc) rfl (by kernel_rfl)) rfl rfl rfl ?_
      rintro _ hp3 ⟨w3, rfl, st3⟩
      replace st := st.join st3
      simp only [List.cons_append, List.nil_append] at st
      clear st3
      obtain ⟨A8, n8, c8, rfl, hl8, _, _, hr8⟩ := st.row 0 rfl
      rw [List.length_map, Nat.mul_one] at hl8
      refine XV rfl rfl rfl (XR_a (op_extract rfl rfl) rfl rfl (XR_a (op_extract rfl rfl) rfl rfl (XA rfl rfl rfl (XA rfl rfl rfl (XR_nil (X_blk (X_seq (X_block (X_seq ?_)))))))))
      refine X_reg (XV rfl rfl rfl ?_)
      refine XR_a (op_neq rfl rfl) rfl rfl ?_
      refine XA rfl rfl rfl (XR_nil ?_)
      refine X_if rfl (fun h => ?_) (fun h => ?_)
      ·rw [if_pos (by omega)] at hU
       subst hU
       refine X_seq (X_reg (XV rfl rfl rfl (XA rfl rfl rfl (XA rfl rfl rfl (XR_nil ?_)))))
       refine X_ret (.cons (.tmp rfl) (.cons (.tmp rfl) .nil)) ?_
       exact ⟨_, by rw [show (pieces l).2 = (((pieces l).2.toNat : Nat) : Int) by omega]; rfl, (st.nilrow 5 1).keep 1⟩
      ·rw [if_neg (by omega)] at hU
       refine X_seq (X_reg (XV rfl rfl rfl ?_))
       refine XR_a (op_len rfl rfl rfl) rfl rfl ?_
       refine XV rfl rfl rfl ?_
       refine XR_a (op_neq rfl rfl) rfl rfl ?_
       refine XA rfl rfl rfl (XR_nil ?_)
       refine X_if rfl (fun h => ?_) (fun h => ?_)
       ·rw [if_pos (by omega)] at hU
        subst hU
        refine X_seq (X_reg (XA rfl rfl rfl (XA rfl rfl rfl (XR_nil ?_))))
        refine X_ret (.cons (.tmp rfl) (.cons (.tmp rfl) .nil)) ?_
        exact ⟨_, rfl, (st.nilrow 5 1).keep 1⟩
       ·rw [if_neg (by omega)] at hU
        subst hU
        refine X_skip (X_blk (X_seq (X_reg ?_)))
        refine XR_wa (opl_lit0 rfl) rfl rfl rfl ?_
        rintro v25 hp hnew
        replace st := st.new hnew
        refine XV rfl rfl rfl ?_
        refine XR_wa (opl_append st 0 rfl (hr8.ext hnew.1) (by rw [List.length_map]; omega) (one_bytes _) (by simp; omega) rfl rfl rfl rfl rfl rfl rfl) rfl rfl rfl fun v hp st => ?_
        simp only [List.set_cons_zero, List.set_cons_succ] at st
        rw [List.nil_append] at st
        refine XA rfl rfl rfl (XA rfl rfl rfl (XR_nil ?_))
        refine X_ret (.cons (.tmp rfl) (.cons (.tmp rfl) .nil)) ?_
        exact ⟨_, rfl, st.keep 1⟩
     ·rw [if_neg (by omega)] at hU
      refine X_skip (X_blk (X_seq (X_block (X_seq (X_reg (XV rfl rfl rfl ?_))))))
      refine XR_a (op_neq rfl rfl) rfl rfl ?_
      refine XR_as (.bool false) (congrArg Value.bool (decide_eq_false (by decide))) ?_
      refine XA rfl rfl rfl (XR_nil (X_else rfl (X_seq (X_reg (XV rfl rfl rfl ?_)))))
      refine XR_a (op_len rfl rfl rfl) rfl rfl ?_
      refine XV rfl rfl rfl ?_
      refine XR_a (op_neq rfl rfl) rfl rfl ?_
      refine XA rfl rfl rfl (XR_nil ?_)
      refine X_if rfl (fun h => ?_) (fun h => ?_)
      ·rw [if_pos (by omega)] at hU
       subst hU
       refine X_seq (X_reg (XA rfl rfl rfl (XA rfl rfl rfl (XR_nil ?_))))
       refine X_ret (.cons (.tmp rfl) (.cons (.tmp rfl) .nil)) ?_
       exact ⟨_, rfl, (st.nilrow 5 1).keep 1⟩
      ·rw [if_neg (by omega)] at hU
       subst hU
       refine X_skip (X_blk (X_seq (X_reg ?_)))
       refine XR_wa (opl_lit0 rfl) rfl rfl rfl ?_
       rintro v25 hp hnew
       replace st := st.new hnew
       refine XV rfl rfl rfl ?_
       refine XR_wa (opl_append st 0 rfl (hr.ext st.low) (by rw [List.length_map]; omega) (one_bytes _) (by simp; omega) rfl rfl rfl rfl rfl rfl rfl) rfl rfl rfl fun v hp st => ?_
       simp only [List.set_cons_zero, List.set_cons_succ] at st
       rw [List.nil_append] at st
       refine XA rfl rfl rfl (XA rfl rfl rfl (XR_nil ?_))
       refine X_ret (.cons (.tmp rfl) (.cons (.tmp rfl) .nil)) ?_
       exact ⟨_, rfl, st.keep 1⟩
end Go.Bn
end

section
set_option linter.unusedVariables false
set_option linter.unusedSimpArgs false
namespace Go.Bn
theorem packP_len {b : List UInt8} (lv : Int) : (packP b lv).2.length ≤ b.length := by
 unfold packP; split
 ·rename_i h; simp only; omega
 ·exact Nat.le_refl _
theorem pack_back {b : List UInt8} (lv : Int) (hb : b.length ≤ 65536) : unpackU ((packP b lv).1 : Nat) (packP b lv).2 (b.length : Nat) = (b, 0) ∧ ∀ o : Int, (unpackU ((packP b lv).1 : Nat) (packP b lv).2 o).2 = 0 ↔ o = (b.length : Int) := by
 unfold packP
 split
 ·obtain ⟨hR, hby, hd, hs, _, hx⟩ := splitL_ok (b := b) lv hb
  obtain ⟨ts, hts⟩ : ∃ ts, splitL b lv = ts := ⟨_, rfl⟩
  rw [hts] at hR hby hd hs hx ⊢
  have hbp := bitsB_pack (blockB (ts.map splitY))
  have hback := fun (most : Int) (h : ((sizeT ts : Nat) : Int) ≤ most) Z => blockT_back hR hby hd h Z
  have hshort := fun (most : Int) (h0 : 0 ≤ most) (h : most < (sizeT ts : Int)) Z => blockT_short hR hby hd h0 h Z
  obtain ⟨BL, hBL⟩ : ∃ BL, blockB (ts.map splitY) = BL := ⟨_, rfl⟩
  simp only [hBL] at hbp hback hshort ⊢
  have hnum := numB_tail BL ((8 - BL.length % 8) % 8) 8
  have hzl : (bitsB (pack BL)).length - BL.length < 8 := by rw [hbp, List.length_append, List.length_replicate]; omega
  rw [← hbp] at hnum
  have key : ∀ o : Int, unpackU ((1 : Nat) : Int) (pack BL) o = if o = (b.length : Int) then (b, 0) else ([], 5) := fun o => by
   unfold unpackU
   rw [if_neg (by omega)]
   by_cases h1 : o < 0 ∨ 65536 < o
   ·rw [if_pos h1, if_neg (by omega)]
   ·rw [if_neg h1, if_pos (by rfl)]
    by_cases h2 : o < (b.length : Int)
    ·rw [hbp, hshort o (by omega) (by omega)]
     rw [if_pos (by simp), if_neg (by omega)]
    ·have hT := hback o (by omega) (List.replicate ((8 - BL.length % 8) % 8) false)
     rw [← hbp] at hT
     rw [hT]
     simp only
     rw [if_neg (by simp)]
     by_cases h3 : o = (b.length : Int)
     ·rw [if_neg (by omega), if_neg (by omega), if_pos h3, hx]
     ·rw [if_pos (by omega), if_neg h3]
  refine ⟨by rw [key, if_pos rfl], fun o => ?_⟩
  rw [key]
  split
  ·rename_i h; exact ⟨fun _ => h, fun _ => rfl⟩
  ·rename_i h; exact ⟨fun hh => (by cases hh), fun hh => absurd hh h⟩
 ·have key : ∀ o : Int, unpackU ((0 : Nat) : Int) b o = if o = (b.length : Int) then (b, 0) else ([], 5) := fun o => by
   unfold unpackU
   rw [if_neg (by omega)]
   by_cases h1 : o < 0 ∨ 65536 < o
   ·rw [if_pos h1, if_neg (by omega)]
   ·rw [if_neg h1, if_neg (by decide), if_neg (by decide)]
    by_cases h3 : o = (b.length : Int)
    ·rw [if_neg (by omega), if_pos h3]
    ·rw [if_pos (by omega), if_neg h3]
  refine ⟨by rw [key, if_pos rfl], fun o => ?_⟩
  rw [key]
  split
  ·rename_i h; exact ⟨fun _ => h, fun _ => rfl⟩
  ·rename_i h; exact ⟨fun hh => (by cases hh), fun hh => absurd hh h⟩
theorem stream_back (ls : List (List UInt8)) (hb : ls.flatten.length ≤ 65536) : unpackU 2 (streamB ls) (ls.flatten.length : Nat) = (ls.flatten, 0) ∧ ∀ o : Int, (unpackU 2 (streamB ls) o).2 = 0 ↔ o = (ls.flatten.length : Int) := by
 have key : ∀ o : Int, unpackU 2 (streamB ls) o = if o = (ls.flatten.length : Int) then (ls.flatten, 0) else ([], 5) := fun o => by
  unfold unpackU
  rw [if_neg (by omega), pieces_stream]
  by_cases h1 : o < 0 ∨ 65536 < o
  ·rw [if_pos h1, if_neg (by omega)]
  ·rw [if_neg h1, if_neg (by decide), if_pos rfl, if_neg (by simp)]
   by_cases h3 : o = (ls.flatten.length : Int)
   ·rw [if_neg (by simp only; omega), if_pos h3]
   ·rw [if_pos (by simp only; omega), if_neg h3]
 refine ⟨by rw [key, if_pos rfl], fun o => ?_⟩
 rw [key]
 split
 ·rename_i h; exact ⟨fun _ => h, fun _ => rfl⟩
 ·rename_i h; exact ⟨fun hh => (by cases hh), fun hh => absurd hh h⟩
end Go.Bn
end

section
set_option linter.unusedVariables false
set_option linter.unusedSimpArgs false
namespace Go.Bn
theorem unpackU_bad {mt size : Int} {l : List UInt8} (h : (unpackU mt l size).2 ≠ 0) : (unpackU mt l size).1 = [] := by
 revert h
 unfold unpackU
 repeat' split
 all_goals first | (intro _; rfl) | (intro h; exact absurd rfl h)
theorem unpack_giv {mt size : Int} {l gB : List UInt8} {gE : Nat} (hG : newE mt l size = 0 → Giv (mvOf mt l size) (atOf mt l) [] gB gE) :
  ((newE mt l size = 0 ∧ gE = 0) ↔ (unpackU mt l size).2 = 0) ∧ ((unpackU mt l size).2 = 0 → gB = (unpackU mt l size).1) := by
 have bad : ∀ (N e : Nat), newE mt l size = N → unpackU mt l size = ([], e) → N ≠ 0 → e ≠ 0 → ((newE mt l size = 0 ∧ gE = 0) ↔ (unpackU mt l size).2 = 0) ∧ ((unpackU mt l size).2 = 0 → gB = (unpackU mt l size).1) := fun N e hN hU h1 h2 => by
  rw [hN, hU]
  exact ⟨⟨fun h => absurd h.1 h1, fun h => absurd h h2⟩, fun h => absurd h h2⟩
 have bad2 : ∀ (e : Nat), unpackU mt l size = ([], e) → e ≠ 0 → gE ≠ 0 → ((newE mt l size = 0 ∧ gE = 0) ↔ (unpackU mt l size).2 = 0) ∧ ((unpackU mt l size).2 = 0 → gB = (unpackU mt l size).1) := fun e hU h2 h1 => by
  rw [hU]
  exact ⟨⟨fun h => absurd h.2 h1, fun h => absurd h h2⟩, fun h => absurd h h2⟩
 have good : ∀ (b : List UInt8), newE mt l size = 0 → unpackU mt l size = (b, 0) → gE = 0 → gB = b → ((newE mt l size = 0 ∧ gE = 0) ↔ (unpackU mt l size).2 = 0) ∧ ((unpackU mt l size).2 = 0 → gB = (unpackU mt l size).1) := fun b hN hU h1 h2 => by
  rw [hN, hU]
  exact ⟨⟨fun _ => rfl, fun _ => ⟨rfl, h1⟩⟩, fun _ => h2⟩
 by_cases h1 : mt < 0 ∨ 2 < mt
 ·exact bad 1 1 (by unfold newE; rw [if_pos h1]) (by unfold unpackU; rw [if_pos h1]) (by decide) (by decide)
 ·by_cases h2 : size < 0 ∨ 65536 < size
  ·exact bad 5 5 (by unfold newE; rw [if_neg h1, if_pos (by omega)]) (by unfold unpackU; rw [if_neg h1, if_pos h2]) (by decide) (by decide)
  ·obtain ⟨s, rfl⟩ : ∃ s : Nat, size = (s : Int) := ⟨size.toNat, by omega⟩
   by_cases hm0 : mt = 0
   ·by_cases h3 : (l.length : Int) ≠ s
    ·exact bad 5 5 (by unfold newE; rw [if_neg h1, if_pos (.inr (.inr ⟨hm0, h3⟩))]) (by unfold unpackU; rw [if_neg h1, if_neg h2, if_neg (by omega), if_neg (by omega), if_pos h3]) (by decide) (by decide)
    ·have hN : newE mt l (s : Int) = 0 := by unfold newE; rw [if_neg h1, if_neg (by omega), if_pos (.inl hm0)]
     have g := hG hN
     unfold mvOf atOf at g
     rw [if_pos hm0, if_pos (.inl hm0)] at g
     have hU : unpackU mt l (s : Int) = (l, 0) := by unfold unpackU; rw [if_neg h1, if_neg h2, if_neg (by omega), if_neg (by omega), if_neg h3]
     cases g with
     | more h _ => cases h
     | over h => exact good l hN hU rfl rfl
   ·by_cases hm2 : mt = 2
    ·have hN : newE mt l (s : Int) = 0 := by unfold newE; rw [if_neg h1, if_neg (by omega), if_pos (.inr hm2)]
     have g := hG hN
     unfold mvOf atOf at g
     rw [if_neg hm0, if_pos hm2, if_pos (.inr hm2), Int.toNat_natCast] at g
     obtain ⟨k1, k2⟩ := pieces_giv (l := l) (size := s) (l.length + 1) 0 [] gB gE (Nat.zero_le _) (by omega) (by simp) g
     rw [List.drop_zero] at k1 k2
     rw [show piecesF (l.length + 1) l [] = pieces l from rfl] at k1 k2
     have hpe := pieces_err l
     by_cases e1 : (pieces l).2 ≠ 0
     ·exact bad2 _ (by unfold unpackU; rw [if_neg h1, if_neg h2, if_neg (by omega), if_pos hm2, if_pos e1]) (by omega) (fun h => absurd (k1.1 h).1 e1)
     ·by_cases e2 : ((pieces l).1.length : Int) ≠ s
      ·exact bad2 5 (by unfold unpackU; rw [if_neg h1, if_neg h2, if_neg (by omega), if_pos hm2, if_neg e1, if_pos e2]) (by decide) (fun h => absurd (k1.1 h).2 (by omega))
      ·have e3 := k1.2 ⟨Decidable.not_not.1 e1, by omega⟩
       exact good _ hN (by unfold unpackU; rw [if_neg h1, if_neg h2, if_neg (by omega), if_pos hm2, if_neg e1, if_neg e2]) e3 (k2 e3)
    ·have hm1 : mt = 1 := by omega
     by_cases hc : (codesT (bitsB l) 0).1 = 0
     ·have hN : newE mt l (s : Int) = 0 := by unfold newE; rw [if_neg h1, if_neg (by omega), if_neg (by omega), hc]
      have g := hG hN
      unfold mvOf atOf at g
      rw [if_neg hm0, if_neg hm2, if_neg (by omega), Int.toNat_natCast] at g
      obtain ⟨k1, k2⟩ := packed_giv hc g
      have hok := blockT_ok (bs := bitsB l) (most := (s : Int)) (by omega)
      have hU : unpackU mt l (s : Int) = if (blockT (bitsB l) s).2.2.2 ≠ 0 then ([], (blockT (bitsB l) s).2.2.2)
        else if ((blockT (bitsB l) s).2.1 : Int) ≠ s then ([], 5)
        else if 8 ≤ (bitsB l).length - (blockT (bitsB l) s).2.2.1 ∨ numB (bitsB l) (blockT (bitsB l) s).2.2.1 8 ≠ 0 then ([], 3)
        else (expL (blockT (bitsB l) s).1 [], 0) := by unfold unpackU; rw [if_neg h1, if_neg h2, if_pos hm1]
      obtain ⟨T, hT⟩ : ∃ T, blockT (bitsB l) s = T := ⟨_, rfl⟩
      rw [hT] at k1 k2 hok hU
      by_cases e1 : T.2.2.2 ≠ 0
      ·exact bad2 _ (by rw [hU, if_pos e1]) e1 (k1 e1)
      ·obtain ⟨k3, k4, k5⟩ := k2 (by omega)
       obtain ⟨_, _, o3, _⟩ := hok (by omega)
       unfold endE at k5
       by_cases e2 : (T.2.1 : Int) ≠ s
       ·rw [if_pos (by omega)] at k5
        exact bad2 5 (by rw [hU, if_neg e1, if_pos e2]) (by decide) (by omega)
       ·rw [if_neg (by omega)] at k5
        by_cases e3 : 8 ≤ (bitsB l).length - T.2.2.1 ∨ numB (bitsB l) T.2.2.1 8 ≠ 0
        ·rw [if_pos e3] at k5
         exact bad2 3 (by rw [hU, if_neg e1, if_neg e2, if_pos e3]) (by decide) (by omega)
        ·rw [if_neg e3] at k5
         exact good _ hN (by rw [hU, if_neg e1, if_neg e2, if_neg e3]) k5 k3
     ·have hb : (blockT (bitsB l) s).2.2.2 = (codesT (bitsB l) 0).1 := by unfold blockT; rw [if_pos hc]
      exact bad _ _ (by unfold newE; rw [if_neg h1, if_neg (by omega), if_neg (by omega)]) (by unfold unpackU; rw [if_neg h1, if_neg h2, if_pos hm1, if_pos (by rw [hb]; exact hc), hb]) hc hc
theorem whole_giv {mt size step : Int} {l gB : List UInt8} {gE : Nat} (hs : 1 ≤ step) (hG : newE mt l size = 0 → Giv (mvOf mt l size) (atOf mt l) [] gB gE) :
  ((wholeG (newE mt l size) gB gE step).2 = 0 ↔ (unpackU mt l size).2 = 0) ∧ (wholeG (newE mt l size) gB gE step).1 = (unpackU mt l size).1 := by
 obtain ⟨h1, h2⟩ := unpack_giv hG
 have h3 := unpackU_bad (mt := mt) (l := l) (size := size)
 obtain ⟨N, hN⟩ : ∃ N, newE mt l size = N := ⟨_, rfl⟩
 rw [hN] at h1 ⊢
 obtain ⟨U, hU⟩ : ∃ U, unpackU mt l size = U := ⟨_, rfl⟩
 rw [hU] at h1 h2 h3 ⊢
 unfold wholeG
 rw [if_neg (by omega)]
 by_cases e1 : N ≠ 0
 ·rw [if_pos e1]
  exact ⟨⟨fun h => absurd h e1, fun h => absurd (h1.2 h).1 e1⟩, (h3 fun h => e1 (h1.2 h).1).symm⟩
 ·rw [if_neg e1]
  by_cases e2 : gE ≠ 0
  ·rw [if_pos e2]
   exact ⟨⟨fun h => absurd h e2, fun h => absurd (h1.2 h).2 e2⟩, (h3 fun h => e2 (h1.2 h).2).symm⟩
  ·rw [if_neg e2]
   have h0 := h1.1 ⟨by omega, by omega⟩
   exact ⟨⟨fun _ => h0, fun _ => rfl⟩, h2 h0⟩
end Go.Bn
end

section
set_option linter.unusedVariables false
set_option linter.unusedSimpArgs false
set_option maxHeartbeats 4000000
set_option maxRecDepth 20000
namespace Go.Bn
open Go Proofs
theorem rall_spec {B : Nat} {pr : Option Addr} {F : List Res} {h0 : Heap} (st0 : St B h0 h0 F) :
  Ret Tryz.prog 64 [.pointer pr] h0 fun v h' => ∃ p, v = .func (.func 101) #[] #[.pointer (some ⟨p, 0, none⟩)] ∧ St B h0 h' (pt p 110 [.pointer pr] :: F) := by
 refine ret_of_X Tryz.func64 rfl rfl fun w0 hw0 => ?_
 simp only [argE, Nat.zero_add, Nat.reduceAdd]
 have st := st0
 refine X_seq (X_reg ?_)
 refine XR_wa (opl_bx (cs := [.pointer pr]) rfl rfl) rfl rfl rfl ?_
 rintro _ hp ⟨p, rfl, hnew⟩
 replace st := st.new hnew
 refine XA rfl rfl rfl (XR_nil (X_seq (X_reg ?_)))
 refine XR_a (op_mkFunc rfl) rfl rfl ?_
 refine XA rfl rfl rfl (XR_nil ?_)
 refine X_ret (.cons (.tmp rfl) .nil) ?_
 exact ⟨p, rfl, st⟩
end Go.Bn
end
