/- Packed texts of a claim: what its theorem uses, joined. -/
import Derived.Test.YtoodeecmplpndaaGreatPkBpt18
section
set_option linter.unusedVariables false
set_option linter.unusedSimpArgs false
set_option maxHeartbeats 4000000
set_option maxRecDepth 20000
namespace Go.Bn
open Go Proofs
theorem castN_iV (z : List Nat) : z.map nV = (castI z).map iV := by unfold castI; rw [List.map_map]; rfl
theorem castN_len (z : List Nat) : (castI z).length = z.length := by unfold castI; rw [List.length_map]
theorem St.rdM {B : Nat} {h0 hp : Heap} {rs : List Res} (s : St B h0 hp rs) {e sz n c : Nat} {A : Option Addr} {vs : List Value} (h : Bn.row e sz (.slice A n c) vs ∈ rs) : Rd hp A vs := by
  obtain ⟨j, hj, he⟩ := List.getElem_of_mem h
  exact (s.rdS j (by rw [List.getElem?_eq_getElem hj, he])).2
theorem lensI_cast {ws : List Nat} (h2 : ws.length ≤ 320) (hw : ∀ x ∈ ws, x ≤ 1073741824) : lensI (castI ws) = lensW ws := by
  have hb : boundedB 1073741824 (castI ws) := by
    refine ⟨by rw [castN_len]; exact h2, fun x hx => ?_⟩
    obtain ⟨y, hy, rfl⟩ := List.mem_map.1 hx
    have := hw y hy
    omega
  have he : errW (castI ws) = 0 := by
    unfold errW
    rw [castN_len, if_neg (by omega), if_pos hb]
  unfold lensI
  rw [if_pos he, castI_toNat]
theorem putL_cast {ls : List Nat} (h : lensOK ls) : putL (castI ls) = putR ls := by
  have hb : ∀ x ∈ castI ls, 0 ≤ x ∧ x ≤ 15 := by
    intro x hx
    obtain ⟨y, hy, rfl⟩ := List.mem_map.1 hx
    have := h.2.2.1 y hy
    omega
  have he : putE (castI ls) = 0 := by
    unfold putE
    rw [castN_len, if_neg (by have := h.1; have := h.2.1; omega), if_pos hb]
  unfold putL
  rw [if_pos he, castI_toNat]
theorem btable_spec {B p n c : Nat} {A : Option Addr} {ws : List Nat} {bs : List Bool} {F : List Res} {h0 : Heap} (st0 : St B h0 h0 (wrR p bs :: F)) (hrB : ∀ h' rs, St B h0 h' (rs ++ F) → Rd h' A (ws.map nV)) (hl : ws.length = n) (h1 : 1 ≤ n) (h2 : n ≤ 320) (hw : ∀ x ∈ ws, x ≤ 1073741824) (hs : (syms ws).length ≠ 0) (hbs : bs.length ≤ 1048576) :
    Ret Tryz.prog 43 [.pointer (some ⟨p, 0, none⟩), .slice A n c] h0 fun v h' => ∃ q, v = .pointer (some ⟨q, 0, none⟩) ∧ St B h0 h' (wrR p (bs ++ putR (lensW ws)) :: codeR q (lensW ws) :: F) := by
  have hok := lensW_ok (ws := ws) (by omega) (by omega) hs
  refine ret_of_X Tryz.func43 rfl rfl fun w0 hw0 => ?_
  simp only [argE, Nat.zero_add, Nat.reduceAdd]
  have st := st0
  refine X_seq ?_
  refine X_reg ?_
  refine XR_a (op_assign rfl) rfl rfl ?_
  refine XR_nil ?_
  refine X_seq ?_
  refine X_reg ?_
  refine XR_a (op_move rfl) rfl rfl ?_
  refine XR_wa (opl_call (lengths_spec (li := castI ws) (by rw [← castN_iV]; exact hrB _ [_] st) (by rw [castN_len]; exact hl) (by omega)) rfl (by kernel_rfl)) rfl rfl rfl ?_
  rintro _ hp1 ⟨v1, rfl, st1⟩
  rw [lensI_cast (by omega) hw] at st1
  replace st := st.join st1
  clear st1
  obtain ⟨A1, n1, c1, rfl, hl1, _, _, hrd1⟩ := st.row 0 rfl
  rw [List.length_map, lensW_length, Nat.mul_one] at hl1
  refine XR_a (op_move rfl) rfl rfl ?_
  refine XR_a (op_extract rfl rfl) rfl rfl ?_
  refine XR_a (op_extract rfl rfl) rfl rfl ?_
  refine XR_a (op_assign rfl) rfl rfl ?_
  refine XR_a (op_assign rfl) rfl rfl ?_
  refine XR_nil ?_
  refine X_seq ?_
  refine X_reg ?_
  refine XR_a (op_move rfl) rfl rfl ?_
  refine XR_wa (opl_call (cnew_spec (li := castI (lensW ws)) (by rw [← castN_iV]; exact hrd1) (by rw [castN_len, lensW_length]; exact hl1) (by omega)) rfl (by kernel_rfl)) rfl rfl rfl ?_
  rintro _ hp2 ⟨w, rfl, hx2, hyes, _⟩
  obtain ⟨q, rfl, stq⟩ := hyes (rightC_cast hok)
  rw [castI_toNat] at stq
  replace st := st.join stq
  clear stq hyes
  replace st := St.reF [_, _, _] 3 st [2, 0, 1] (by decide)
  simp only [List.map_cons, List.map_nil, getR, List.cons_append, List.nil_append] at st
  refine XR_a (op_move rfl) rfl rfl ?_
  refine XR_a (op_extract rfl rfl) rfl rfl ?_
  refine XR_a (op_extract rfl rfl) rfl rfl ?_
  refine XR_a (op_assign rfl) rfl rfl ?_
  refine XR_a (op_assign rfl) rfl rfl ?_
  refine XR_nil ?_
  refine X_seq ?_
  refine X_reg ?_
  refine XR_a (op_move rfl) rfl rfl ?_
  refine XR_a (op_move rfl) rfl rfl ?_
  refine XR_wa (opl_call (rput_spec (li := castI (lensW ws)) st.here (fun h' rs hs => by rw [← castN_iV]; exact hs.rdM (List.mem_append_right _ (List.mem_cons_of_mem _ List.mem_cons_self))) (by rw [castN_len, lensW_length]; exact hl1) (by omega) hbs) rfl (by kernel_rfl)) rfl rfl rfl ?_
  rintro _ hp3 ⟨rfl, st3⟩
  replace st := st.trans st3
  rw [putL_cast hok] at st
  refine XR_nil ?_
  refine X_seq ?_
  refine X_reg ?_
  refine XR_a (op_move rfl) rfl rfl ?_
  refine XR_a (op_assign rfl) rfl rfl ?_
  refine XR_nil ?_
  refine X_ret (.cons (.tmp rfl) .nil) ?_
  exact ⟨q, rfl, (St.reF [_, _, _] 3 st [2, 0, 1] (by decide)).tail⟩
theorem bone_spec {B p q : Nat} {ls : List Nat} {k : Kls} {bs : List Bool} {F : List Res} {h0 : Heap} (st0 : St B h0 h0 (wrR p bs :: codeR q ls :: F)) (hok : lensOK ls) (hk : 0 ≤ k.ext ∧ k.ext < 4294967296) (hbs : bs.length ≤ 1099511626000) :
    Ret Tryz.prog 44 [.pointer (some ⟨p, 0, none⟩), .pointer (some ⟨q, 0, none⟩), .agg (clsV k).toArray] h0 fun _ h' => St B h0 h' (wrR p (bs ++ symB ls k) :: codeR q ls :: F) := by
  obtain ⟨x, hx⟩ : ∃ x : Nat, k.ext = x := ⟨k.ext.toNat, by omega⟩
  have hl15 := lens_le hok k.num
  refine ret_of_X Tryz.func44 rfl rfl fun w0 hw0 => ?_
  simp only [argE, Nat.zero_add, Nat.reduceAdd]
  have st := st0
  refine X_seq ?_
  refine X_reg ?_
  refine XR_wa (opl_bx (cs := clsV k) rfl rfl) rfl rfl rfl ?_
  rintro _ hp ⟨p5, rfl, hnew⟩
  replace st := st.new hnew
  refine XR_nil ?_
  refine X_seq ?_
  refine X_reg ?_
  refine XR_a (op_move rfl) rfl rfl ?_
  refine XR_a (op_move rfl) rfl rfl ?_
  first | refine XR_a (op_field0 rfl rfl) rfl rfl ?_ | refine XR_a (op_fieldn rfl rfl) rfl rfl ?_
  refine XR_a (op_ld (st.cell 0 (i := 0) rfl rfl) rfl rfl rfl) rfl rfl ?_
  replace st := St.reF [_, _, _] 3 st [1, 2, 0] (by decide)
  simp only [List.map_cons, List.map_nil, getR, List.cons_append, List.nil_append] at st
  refine XR_wa (opl_call (cput_spec st.here hok (by omega)) rfl (by kernel_rfl)) rfl rfl rfl ?_
  rintro _ hp2 ⟨rfl, st2⟩
  replace st := st.trans st2
  clear st2
  refine XR_nil ?_
  refine X_reg ?_
  refine XR_a (op_move rfl) rfl rfl ?_
  first | refine XR_a (op_field0 rfl rfl) rfl rfl ?_ | refine XR_a (op_fieldn rfl rfl) rfl rfl ?_
  refine XR_a (op_ld (st.cell 2 (i := 2) rfl rfl) rfl rfl rfl) rfl rfl ?_
  refine XR_as (.int .u32 ((x : Nat) : Int)) (congrArg (Value.int .u32) hx) ?_
  first | refine XR_a (op_field0 rfl rfl) rfl rfl ?_ | refine XR_a (op_fieldn rfl rfl) rfl rfl ?_
  refine XR_a (op_ld (st.cell 2 (i := 1) rfl rfl) rfl rfl rfl) rfl rfl ?_
  refine XR_wa (opl_call (put_spec (n := x) st.here (by omega) (by rw [List.length_append, codeBits_length]; omega)) rfl (by kernel_rfl)) rfl rfl rfl ?_
  rintro _ hp3 ⟨rfl, st2⟩
  replace st := st.trans st2
  clear st2
  have he : bs ++ codeBits (val ls k.num.toNat) (lenAt ls k.num) ++ bitsN (wd 32 k.bits) x = bs ++ symB ls k := by unfold symB; rw [hx, Int.toNat_natCast, List.append_assoc]
  rw [he] at st
  refine XR_nil ?_
  refine X_end .nil ?_
  exact (St.reF [_, _, _] 3 st [2, 0, 1] (by decide)).tail
theorem splitY_ok {t : Tok} (h : t.right) (hb : 0 ≤ t.byte ∧ t.byte < 256) : (0 ≤ (splitY t).a.ext ∧ (splitY t).a.ext < 4294967296) ∧ (0 ≤ (splitY t).b.ext ∧ (splitY t).b.ext < 4294967296) ∧ 0 ≤ (splitY t).a.num ∧ (splitY t).a.num < 273 ∧ 0 ≤ (splitY t).b.num ∧ (splitY t).b.num < 30 := by
  obtain ⟨_, h1, h2, _, h3, h4⟩ := join_split h hb
  refine ⟨?_, ?_, h1, h2, h3, h4⟩
  · unfold splitY
    split
    · simp
    · rename_i h0
      unfold Tok.right at h
      rw [if_neg h0] at h
      simp only [klsOf]
      omega
  · unfold splitY
    split
    · simp [Kls.nil]
    · rename_i h0
      unfold Tok.right at h
      rw [if_neg h0] at h
      simp only [klsOf]
      omega
theorem bput_spec {B p n c : Nat} {A : Option Addr} {ts : List Tok} {bs : List Bool} {F : List Res} {h0 : Heap} (st0 : St B h0 h0 (wrR p bs :: F)) (hrB : ∀ h' rs, St B h0 h' (rs ++ F) → Rd h' A (ts.flatMap tokV)) (hl : ts.length = n) (hn : n ≤ 17592186044416) (hby : ∀ t ∈ ts, 0 ≤ t.byte ∧ t.byte < 256) (hbs : bs.length ≤ 1000000) :
    Ret Tryz.prog 16 [.pointer (some ⟨p, 0, none⟩), .slice A n c] h0 fun v h' => v = nV (if rightL ts then 0 else 3) ∧ St B h0 h' (wrR p (bs ++ if rightL ts then blockB (ts.map splitY) else []) :: F) := by
  refine ret_of_X Tryz.func16 rfl rfl fun w0 hw0 => ?_
  simp only [argE, Nat.zero_add, Nat.reduceAdd]
  have st := st0
  refine X_seq ?_
  refine X_reg ?_
  refine XR_a (op_assign rfl) rfl rfl ?_
  refine XR_nil ?_
  refine X_seq ?_
  refine X_seq ?_
  refine X_reg ?_
  refine XR_a (op_move rfl) rfl rfl ?_
  refine XR_a (op_ptr_nil rfl rfl rfl) rfl rfl ?_
  refine XR_nil ?_
  refine X_else rfl ?_
  refine X_skip ?_
  refine X_seq ?_
  refine X_reg ?_
  refine XR_a (op_move rfl) rfl rfl ?_
  refine XR_wa (opl_call (brows_spec (St.start h0) (fun h' hh => (hrB h0 [_] st).ext hh) hl hn hby) rfl (by kernel_rfl)) rfl rfl rfl ?_
  rintro _ hp1 ⟨w, rfl, hyes, hno⟩
  refine XR_a (op_move rfl) rfl rfl ?_
  by_cases hR : rightL ts
  · replace st := st.join (hyes hR)
    rw [decide_eq_true hR, if_pos hR, if_pos hR]
    clear hyes hno
    have hY : ∀ y ∈ ts.map splitY, (0 ≤ y.a.ext ∧ y.a.ext < 4294967296) ∧ (0 ≤ y.b.ext ∧ y.b.ext < 4294967296) ∧ 0 ≤ y.a.num ∧ y.a.num < 273 ∧ 0 ≤ y.b.num ∧ y.b.num < 30 := fun y hy => by
      obtain ⟨t, ht, rfl⟩ := List.mem_map.1 hy
      exact splitY_ok (hR.2 t ht) (hby t ht)
    obtain ⟨ys, hys⟩ : ∃ ys, ts.map splitY = ys := ⟨_, rfl⟩
    have hyl : ys.length = n := by rw [← hys, List.length_map]; exact hl
    have hn6 := hR.1
    rw [hys] at st hY ⊢
    obtain ⟨A1, n1, c1, rfl, hl1, _⟩ := st.row 0 rfl
    rw [flat_length _ 7 (fun _ => rfl)] at hl1
    obtain rfl : n = n1 := by omega
    have hb30 : ∀ y ∈ ys, y.b.num.toNat < 30 := fun y hy => by have := hY y hy; omega
    have hokA := lA_ok ys
    have hokB := lB_ok hb30
    refine XR_a (op_extract rfl rfl) rfl rfl ?_
    refine XR_a (op_extract rfl rfl) rfl rfl ?_
    refine XR_a (op_assign rfl) rfl rfl ?_
    refine XR_a (op_assign rfl) rfl rfl ?_
    refine XR_nil ?_
    refine X_seq ?_
    refine X_seq ?_
    refine X_reg ?_
    refine XR_a (op_move rfl) rfl rfl ?_
    first | refine XR_a (op_notd rfl) rfl rfl ?_ | refine XR_a (op_not rfl) rfl rfl ?_
    refine XR_as (.bool false) rfl ?_
    refine XR_nil ?_
    refine X_else rfl ?_
    refine X_skip ?_
    refine X_seq ?_
    refine X_reg ?_
    refine XR_a (op_move rfl) rfl rfl ?_
    refine XR_wa (opl_call (bweigh1_spec (St.start hp1) (fun h' hh => (st.rdS 0 rfl).2.ext hh) hyl (by omega) (fun y hy => (hY y hy).2.2)) rfl (by kernel_rfl)) rfl rfl rfl ?_
    rintro _ hp2 ⟨w1, w2, rfl, st2⟩
    replace st := st.join st2
    clear st2
    obtain ⟨Aa, na, ca, rfl, hla, _⟩ := st.row 0 rfl
    obtain ⟨Ab, nb, cb, rfl, hlb, _⟩ := st.row 1 rfl
    rw [List.length_map, firstW_len, Nat.mul_one] at hla
    rw [List.length_map, secondW_len, Nat.mul_one] at hlb
    subst hla hlb
    replace st := St.reF [_, _, _, _] 4 st [3, 0, 1, 2] (by decide)
    simp only [List.map_cons, List.map_nil, getR, List.cons_append, List.nil_append] at st
    refine XR_a (op_move rfl) rfl rfl ?_
    refine XR_a (op_extract rfl rfl) rfl rfl ?_
    refine XR_a (op_extract rfl rfl) rfl rfl ?_
    refine XR_a (op_assign rfl) rfl rfl ?_
    refine XR_a (op_assign rfl) rfl rfl ?_
    refine XR_nil ?_
    refine X_seq ?_
    refine X_reg ?_
    refine XR_a (op_move rfl) rfl rfl ?_
    refine XR_a (op_move rfl) rfl rfl ?_
    refine XR_wa (opl_call (btable_spec st.here (fun h' rs hs => hs.rdM (List.mem_append_right _ List.mem_cons_self)) (firstW_len ys) (by omega) (by omega) (fun x hx => by have := firstW_le ys x hx; omega) (firstW_syms ys) (by omega)) rfl (by kernel_rfl)) rfl rfl rfl ?_
    rintro _ hp3 ⟨q1, rfl, st3⟩
    replace st := st.trans st3
    clear st3
    rw [show lensW (firstW ys) = lA ys from rfl] at st
    have hlA := putR_len hokA
    rw [show (lA ys).length = 273 by unfold lA; rw [lensW_length, firstW_len]] at hlA
    refine XR_a (op_move rfl) rfl rfl ?_
    refine XR_a (op_move rfl) rfl rfl ?_
    refine XR_wa (opl_call (btable_spec st.here (fun h' rs hs => hs.rdM (List.mem_append_right _ (List.mem_cons_of_mem _ (List.mem_cons_of_mem _ List.mem_cons_self)))) (secondW_len ys) (by omega) (by omega) (fun x hx => by have := secondW_le ys x hx; omega) (secondW_syms hb30) (by rw [List.length_append]; omega)) rfl (by kernel_rfl)) rfl rfl rfl ?_
    rintro _ hp4 ⟨q2, rfl, st3⟩
    replace st := st.trans st3
    clear st3
    rw [show lensW (secondW ys) = lB ys from rfl] at st
    have hlB := putR_len hokB
    rw [show (lB ys).length = 30 by unfold lB; rw [lensW_length, secondW_len]] at hlB
    replace st := (St.reF [_, _, _, _, _, _] 6 st [3, 4, 0, 2, 1, 5] (by decide)).tail.tail
    simp only [List.map_cons, List.map_nil, getR, List.cons_append, List.nil_append] at st
    obtain ⟨la, hla⟩ : ∃ x, lA ys = x := ⟨_, rfl⟩
    obtain ⟨lb, hlb⟩ : ∃ x, lB ys = x := ⟨_, rfl⟩
    have hbl : blockB ys = putR la ++ putR lb ++ ys.flatMap (syB la lb) ++ codeBits (val la 256) (lenAt la 256) := by unfold blockB; rw [hla, hlb]
    rw [hla] at st hokA hlA
    rw [hlb] at st hokB hlB
    rw [hbl]
    have hfl := fun i => flat_bd (syB la lb) 94 (syB_len hokA hokB) (ys.take i)
    refine XR_a (op_assign rfl) rfl rfl ?_
    refine XR_a (op_assign rfl) rfl rfl ?_
    refine XR_nil ?_
    refine X_seq ?_
    refine X_seq ?_
    refine X_reg ?_
    refine XR_a (op_move rfl) rfl rfl ?_
    refine XR_a (op_len rfl rfl rfl) rfl rfl ?_
    refine XR_a (op_move rfl) rfl rfl ?_
    refine XR_nil ?_
    refine X_block ?_
    refine X_loop (fun i => n - i) (fun i => [(0, .pointer (some ⟨p, 0, none⟩)), (9, .pointer (some ⟨q1, 0, none⟩)), (10, .pointer (some ⟨q2, 0, none⟩)), (33, .slice A1 n c1), (34, nV n), (35, nV i)])
      (fun (i : Nat) hp => i ≤ n ∧ St B h0 hp (wrR p (bs ++ putR la ++ putR lb ++ (ys.take i).flatMap (syB la lb)) :: codeR q1 la :: codeR q2 lb :: row 94 7 (.slice A1 n c1) (ys.flatMap syV) :: F))
      0 (.cons rfl (.cons rfl (.cons rfl (.cons rfl (.cons rfl (.cons rfl (.nil _))))))) ⟨Nat.zero_le _, by rw [List.take_zero, List.flatMap_nil, List.append_nil]; exact st⟩ ?_
    clear st
    rintro i hp ⟨hi, st⟩
    have hfi := hfl i
    rw [List.length_take] at hfi
    refine X_seq ?_
    refine X_reg ?_
    refine XR_a (op_lss rfl rfl) rfl rfl ?_
    refine XR_nil ?_
    refine X_seq ?_
    refine X_if rfl (fun h => ?_) (fun h => ?_)
    · have hil : i < ys.length := by omega
      obtain ⟨y, hy⟩ : ∃ y, ys[i] = y := ⟨_, rfl⟩
      have hyo := hY y (hy ▸ List.getElem_mem hil)
      obtain ⟨gy, oy, rfl, hcy⟩ := Rd.flat syV 7 (st.rdS 3 rfl).2 (fun _ => rfl) (by omega) (by omega)
      have hcx := hcy i hil
      rw [hy] at hcx
      have htk : (ys.take (i + 1)).flatMap (syB la lb) = (ys.take i).flatMap (syB la lb) ++ syB la lb y := by rw [List.take_succ_eq_append_getElem hil, hy, List.flatMap_append]; simp
      refine X_skip ?_
      refine X_seq ?_
      refine X_block ?_
      refine X_seq ?_
      refine X_reg ?_
      refine XR_a (op_index (i := i) rfl rfl rfl (by omega)) rfl rfl ?_
      refine XR_a (op_ldA (vs := syV y) hcx rfl rfl rfl rfl) rfl rfl ?_
      refine XR_wa (opl_new rfl) rfl rfl rfl ?_
      rintro _ hp5 ⟨p12, rfl, hnew⟩
      replace st := st.new hnew
      refine XR_wn (opl_store_whole (us := syV y) st 0 rfl rfl rfl rfl rfl (syV_one _) rfl) rfl rfl fun _ hp6 st => ?_
      simp only [List.set_cons_zero, List.set_cons_succ] at st
      refine XR_nil ?_
      refine X_seq ?_
      refine X_reg ?_
      refine XR_a (op_move rfl) rfl rfl ?_
      refine XR_a (op_move rfl) rfl rfl ?_
      first | refine XR_a (op_field0 rfl rfl) rfl rfl ?_ | refine XR_a (op_fieldn rfl rfl) rfl rfl ?_
      refine XR_a (op_ldA (vs := clsV y.a) (st.part 0 0 [] (clsV y.a) (clsV y.b ++ [.bool y.m]) rfl rfl) rfl rfl rfl rfl) rfl rfl ?_
      replace st := St.reF [_, _, _, _, _] 5 st [1, 2, 0, 3, 4] (by decide)
      simp only [List.map_cons, List.map_nil, getR, List.cons_append, List.nil_append] at st
      refine XR_wa (opl_call (bone_spec st.here hokA hyo.1 (by simp only [List.length_append]; omega)) rfl (by kernel_rfl)) rfl rfl rfl ?_
      rintro _ hp7 st2
      replace st := st.trans st2
      clear st2
      refine XR_nil ?_
      refine X_seq ?_
      refine X_reg ?_
      first | refine XR_a (op_field0 rfl rfl) rfl rfl ?_ | refine XR_a (op_fieldn rfl rfl) rfl rfl ?_
      refine XR_a (op_ld (st.cell 2 (i := 6) rfl rfl) rfl rfl rfl) rfl rfl ?_
      refine XR_as (.bool (decide (y.m = true))) (congrArg Value.bool (by cases y.m <;> rfl)) ?_
      refine XR_nil ?_
      refine X_if rfl (fun h => ?_) (fun h => ?_)
      · refine X_reg ?_
        refine XR_a (op_move rfl) rfl rfl ?_
        refine XR_a (op_move rfl) rfl rfl ?_
        first | refine XR_a (op_field0 rfl rfl) rfl rfl ?_ | refine XR_a (op_fieldn rfl rfl) rfl rfl ?_
        refine XR_a (op_ldA (vs := clsV y.b) (st.part 2 3 (clsV y.a) (clsV y.b) [.bool y.m] rfl rfl) rfl rfl rfl rfl) rfl rfl ?_
        replace st := St.reF [_, _, _, _, _] 5 st [0, 3, 1, 2, 4] (by decide)
        simp only [List.map_cons, List.map_nil, getR, List.cons_append, List.nil_append] at st
        have hsl := symB_len hokA y.a
        refine XR_wa (opl_call (bone_spec st.here hokB hyo.2.1 (by simp only [List.length_append]; omega)) rfl (by kernel_rfl)) rfl rfl rfl ?_
        rintro _ hp8 st2
        replace st := st.trans st2
        clear st2
        refine XR_nil ?_
        refine X_blk ?_
        refine X_reg ?_
        first | refine XR_a (op_addN (n := 1) rfl rfl (by simp only [inK]; omega)) rfl rfl ?_ | refine XR_a (op_addI rfl rfl (by simp only [inK]; omega)) rfl rfl ?_ | refine XR_a (op_add rfl rfl) rfl rfl ?_
        refine XR_a (op_move rfl) rfl rfl ?_
        refine XR_nil ?_
        have he : bs ++ putR la ++ putR lb ++ (ys.take i).flatMap (syB la lb) ++ symB la y.a ++ symB lb y.b = bs ++ putR la ++ putR lb ++ (ys.take (i + 1)).flatMap (syB la lb) := by
          rw [htk]; unfold syB; rw [if_pos h]; simp only [List.append_assoc]
        rw [he] at st
        replace st := (St.reF [_, _, _, _, _] 5 st [3, 0, 2, 1, 4] (by decide)).tail
        exact X_again (i + 1) (.cons rfl (.cons rfl (.cons rfl (.cons rfl (.cons rfl (.cons rfl (.nil _))))))) ⟨by omega, st⟩ (by omega)
      · refine X_skip ?_
        refine X_blk ?_
        refine X_reg ?_
        first | refine XR_a (op_addN (n := 1) rfl rfl (by simp only [inK]; omega)) rfl rfl ?_ | refine XR_a (op_addI rfl rfl (by simp only [inK]; omega)) rfl rfl ?_ | refine XR_a (op_add rfl rfl) rfl rfl ?_
        refine XR_a (op_move rfl) rfl rfl ?_
        refine XR_nil ?_
        have he : bs ++ putR la ++ putR lb ++ (ys.take i).flatMap (syB la lb) ++ symB la y.a = bs ++ putR la ++ putR lb ++ (ys.take (i + 1)).flatMap (syB la lb) := by
          rw [htk]; unfold syB; rw [if_neg h, List.append_nil]; simp only [List.append_assoc]
        rw [he] at st
        replace st := (St.reF [_, _, _, _, _] 5 st [2, 0, 1, 3, 4] (by decide)).tail
        exact X_again (i + 1) (.cons rfl (.cons rfl (.cons rfl (.cons rfl (.cons rfl (.cons rfl (.nil _))))))) ⟨by omega, st⟩ (by omega)
    · rw [List.take_of_length_le (by omega)] at st hfi
      refine X_exit rfl ?_
      refine X_seq ?_
      refine X_reg ?_
      refine XR_a (op_move rfl) rfl rfl ?_
      refine XR_a (op_move rfl) rfl rfl ?_
      refine XR_wa (opl_call (cput_spec (s := 256) st.here hokA (by simp only [List.length_append]; omega)) rfl (by kernel_rfl)) rfl rfl rfl ?_
      rintro _ hp9 ⟨rfl, st2⟩
      replace st := st.trans st2
      clear st2
      refine XR_nil ?_
      refine X_seq ?_
      refine X_reg ?_
      refine XR_a (op_assign rfl) rfl rfl ?_
      refine XR_nil ?_
      refine X_ret (.cons (.tmp rfl) .nil) ?_
      have he : bs ++ putR la ++ putR lb ++ ys.flatMap (syB la lb) ++ codeBits (val la (256 : Int).toNat) (lenAt la 256) = bs ++ (putR la ++ putR lb ++ ys.flatMap (syB la lb) ++ codeBits (val la 256) (lenAt la 256)) := by
        simp only [List.append_assoc]; rfl
      rw [he] at st
      exact ⟨rfl, (St.reF [_, _, _, _] 4 st [1, 2, 3, 0] (by decide)).tail.tail.tail⟩
  · replace st := st.ext (hno hR).low
    rw [decide_eq_false hR, if_neg hR, if_neg hR]
    clear hyes hno
    refine XR_a (op_extract rfl rfl) rfl rfl ?_
    refine XR_a (op_extract rfl rfl) rfl rfl ?_
    refine XR_a (op_assign rfl) rfl rfl ?_
    refine XR_a (op_assign rfl) rfl rfl ?_
    refine XR_nil ?_
    refine X_seq ?_
    refine X_seq ?_
    refine X_reg ?_
    refine XR_a (op_move rfl) rfl rfl ?_
    first | refine XR_a (op_notd rfl) rfl rfl ?_ | refine XR_a (op_not rfl) rfl rfl ?_
    refine XR_as (.bool true) rfl ?_
    refine XR_nil ?_
    refine X_then rfl ?_
    refine X_seq ?_
    refine X_reg ?_
    refine XR_a (op_assign rfl) rfl rfl ?_
    refine XR_nil ?_
    refine X_ret (.cons (.tmp rfl) .nil) ?_
    rw [List.append_nil]
    exact ⟨rfl, st⟩
end Go.Bn
end

section
set_option linter.unusedVariables false
set_option linter.unusedSimpArgs false
set_option maxHeartbeats 4000000
set_option maxRecDepth 20000
namespace Go.Bn
open Go Proofs
theorem wkey_le {ws : List Nat} {b : Nat} (h : ∀ x ∈ ws, x ≤ b) (s : Nat) : wkey ws s ≤ b := by
  unfold wkey
  rcases Nat.lt_or_ge s ws.length with h1 | h1
  · rw [getD_get h1]; exact h _ (List.getElem_mem h1)
  · simp [List.getD, h1]
theorem put13_ref {n c : Nat} {A : Option Addr} {ts : List Tok} {h0 : Heap} (hr : Rd h0 A (ts.flatMap tokV)) (hl : ts.length = n) (hR : rightL ts) (hby : ∀ t ∈ ts, 0 ≤ t.byte ∧ t.byte < 256) :
    Ret Tryz.prog 20 [.slice A n c] h0 fun v h' => St h0.size h0 h' [row 5 1 v ((b01 (blockB (ts.map splitY))).map byteV)] := by
  have hn6 := hR.1
  refine ret_of_X Tryz.func20 rfl rfl fun w0 hw0 => ?_
  simp only [argE, Nat.zero_add, Nat.reduceAdd]
  refine X_seq ?_
  refine X_reg ?_
  refine XR_a (op_assign rfl) rfl rfl ?_
  refine XR_nil ?_
  refine X_seq ?_
  refine X_reg ?_
  refine XR_a (op_move rfl) rfl rfl ?_
  refine XR_wa (opl_call (weights13_ref hr hl hR hby) rfl (by kernel_rfl)) rfl rfl rfl ?_
  rintro _ hp1 ⟨w1, w2, rfl, st⟩
  have hb30 : ∀ y ∈ ts.map splitY, y.b.num.toNat < 30 := fun y hy => by
    obtain ⟨t, ht, rfl⟩ := List.mem_map.1 hy
    obtain ⟨_, h1, h2, _, h3, h4⟩ := join_split (hR.2 t ht) (hby t ht)
    omega
  obtain ⟨ys, hys⟩ : ∃ ys, ts.map splitY = ys := ⟨_, rfl⟩
  rw [hys] at st hb30 ⊢
  have hyl : ys.length = n := by rw [← hys, List.length_map]; exact hl
  have hokA := lA_ok ys
  have hokB := lB_ok hb30
  obtain ⟨A1, n1, c1, rfl, hl1, _, _, hr1⟩ := st.row 0 rfl
  obtain ⟨A2, n2, c2, rfl, hl2, _, _, hr2⟩ := st.row 1 rfl
  rw [List.length_map, firstW_len, Nat.mul_one] at hl1
  rw [List.length_map, secondW_len, Nat.mul_one] at hl2
  subst hl1 hl2
  refine XR_a (op_move rfl) rfl rfl ?_
  refine XR_a (op_extract rfl rfl) rfl rfl ?_
  refine XR_a (op_extract rfl rfl) rfl rfl ?_
  refine XR_a (op_assign rfl) rfl rfl ?_
  refine XR_a (op_assign rfl) rfl rfl ?_
  refine XR_nil ?_
  refine X_seq ?_
  refine X_reg ?_
  refine XR_a (op_move rfl) rfl rfl ?_
  refine XR_wa (opl_call (lengths_ref hr1 (firstW_len ys) (by omega) (fun s => Nat.le_trans (wkey_le (firstW_le ys) s) (by omega))) rfl (by kernel_rfl)) rfl rfl rfl ?_
  rintro v3 hp2 st2
  have hr2 := hr2.ext st2.low
  replace st := st.join st2
  rw [show lensW (firstW ys) = lA ys from rfl] at st
  refine XR_a (op_move rfl) rfl rfl ?_
  refine XR_wa (opl_call (lengths_ref hr2 (secondW_len ys) (by omega) (fun s => Nat.le_trans (wkey_le (secondW_le ys) s) (by omega))) rfl (by kernel_rfl)) rfl rfl rfl ?_
  rintro v4 hp3 st3
  replace st := st.join st3
  rw [show lensW (secondW ys) = lB ys from rfl] at st
  simp only [List.cons_append, List.nil_append] at st
  have hlA := putR_len hokA
  have hlB := putR_len hokB
  rw [show (lA ys).length = 273 by unfold lA; rw [lensW_length, firstW_len]] at hlA
  rw [show (lB ys).length = 30 by unfold lB; rw [lensW_length, secondW_len]] at hlB
  obtain ⟨la, hla⟩ : ∃ x, lA ys = x := ⟨_, rfl⟩
  obtain ⟨lb, hlb⟩ : ∃ x, lB ys = x := ⟨_, rfl⟩
  have hbl : blockB ys = putR la ++ putR lb ++ ys.flatMap (syB la lb) ++ codeBits (val la 256) (lenAt la 256) := by unfold blockB; rw [hla, hlb]
  have h273 : la.length = 273 := by rw [← hla]; unfold lA; rw [lensW_length, firstW_len]
  have h30 : lb.length = 30 := by rw [← hlb]; unfold lB; rw [lensW_length, secondW_len]
  rw [hla] at st hokA hlA
  rw [hlb] at st hokB hlB
  rw [hbl]
  obtain ⟨A4, n4, c4, rfl, hl4, _, _, hr4⟩ := st.row 0 rfl
  obtain ⟨A3, n3, c3, rfl, hl3, _, _, hr3⟩ := st.row 1 rfl
  rw [List.length_map, Nat.mul_one, h30] at hl4
  rw [List.length_map, Nat.mul_one, h273] at hl3
  subst hl3 hl4
  refine XR_a (op_assign rfl) rfl rfl ?_
  refine XR_a (op_assign rfl) rfl rfl ?_
  refine XR_nil ?_
  refine X_seq ?_
  refine X_reg ?_
  refine XR_a (op_move rfl) rfl rfl ?_
  refine XR_wa (opl_call (values08_ref hr3 h273 hokA) rfl (by kernel_rfl)) rfl rfl rfl ?_
  rintro v5 hp4 st4
  have hr4 := hr4.ext st4.low
  have hr3 := hr3.ext st4.low
  replace st := st.join st4
  refine XR_a (op_move rfl) rfl rfl ?_
  refine XR_wa (opl_call (values08_ref hr4 h30 hokB) rfl (by kernel_rfl)) rfl rfl rfl ?_
  rintro v6 hp5 st5
  have hr4 := hr4.ext st5.low
  have hr3 := hr3.ext st5.low
  replace st := st.join st5
  refine XR_a (op_assign rfl) rfl rfl ?_
  refine XR_a (op_assign rfl) rfl rfl ?_
  refine XR_nil ?_
  refine X_seq ?_
  refine X_reg ?_
  refine XR_a (op_move rfl) rfl rfl ?_
  refine XR_wa (opl_call (put09_ref hr3 h273 (by omega) (by omega) hokA.2.2.1) rfl (by kernel_rfl)) rfl rfl rfl ?_
  rintro v7 hp6 st6
  have hr4 := hr4.ext st6.low
  replace st := st.join st6
  refine XR_a (op_move rfl) rfl rfl ?_
  refine XR_wa (opl_call (put09_ref hr4 h30 (by omega) (by omega) hokB.2.2.1) rfl (by kernel_rfl)) rfl rfl rfl ?_
  rintro v8 hp7 st7
  replace st := st.join st7
  simp only [List.cons_append, List.nil_append] at st
  obtain ⟨A7, n7, c7, rfl, hl7, _⟩ := st.row 1 rfl
  obtain ⟨A8, n8, c8, rfl, hl8, _, _, hr8⟩ := st.row 0 rfl
  refine XR_wa (opl_append st 1 rfl (hr8) (by rw [List.length_map, b01_length] at hl8 ⊢; omega) (one_bytes _) (by simp only [List.length_map, b01_length]; omega) rfl rfl rfl rfl rfl rfl rfl) rfl rfl rfl fun v hp st => ?_
  simp only [List.set_cons_zero, List.set_cons_succ] at st
  rw [← List.map_append, show b01 (putR la) ++ b01 (putR lb) = b01 (putR la ++ putR lb) by unfold b01; rw [List.map_append]] at st
  obtain ⟨A5, n5, c5, rfl, hl5, _⟩ := st.row 3 rfl
  obtain ⟨A6, n6, c6, rfl, hl6, _⟩ := st.row 2 rfl
  rw [List.length_map, vals_length, Nat.mul_one, h273] at hl5
  rw [List.length_map, vals_length, Nat.mul_one, h30] at hl6
  subst hl5 hl6
  obtain ⟨vo, hvo⟩ : ∃ v : Value, v = v := ⟨.slice none 0 0, rfl⟩
  clear hvo vo
  have hfl := fun i => flat_bd (syB la lb) 94 (syB_len hokA hokB) (ys.take i)
  refine XR_a (op_assign rfl) rfl rfl ?_
  refine XR_nil ?_
  refine X_seq ?_
  refine X_seq ?_
  refine X_reg ?_
  refine XR_a (op_assign rfl) rfl rfl ?_
  refine XR_nil ?_
  refine X_block ?_
  replace st := St.re st 8 [1, 5, 3, 4, 2, 0, 6, 7] (by decide)
  simp only [List.map_cons, List.map_nil, getR] at st
  refine X_loop (fun s => n - s.1) (fun s => [(0, .slice A n c), (5, .slice A3 273 c3), (6, .slice A4 30 c4), (7, .slice A5 273 c5), (8, .slice A6 30 c6), (9, s.2), (10, nV s.1)])
    (fun (s : Nat × Value) hp => s.1 ≤ n ∧ St h0.size h0 hp [row 5 1 s.2 ((b01 (putR la ++ putR lb ++ (ys.take s.1).flatMap (syB la lb))).map byteV), row 3 1 (.slice A3 273 c3) (la.map nV), row 3 1 (.slice A5 273 c5) ((vals la).map nV), row 3 1 (.slice A4 30 c4) (lb.map nV), row 3 1 (.slice A6 30 c6) ((vals lb).map nV)])
    (0, _) (.cons rfl (.cons rfl (.cons rfl (.cons rfl (.cons rfl (.cons rfl (.cons rfl (.nil _)))))))) ⟨Nat.zero_le _, by rw [List.take_zero, List.flatMap_nil, List.append_nil]; exact (St.re st 8 [5, 6, 7, 0, 1, 2, 3, 4] (by decide)).tail.tail.tail⟩ ?_
  clear st
  rintro ⟨i, v⟩ hp ⟨hi, st⟩
  simp only at hi st ⊢
  have hfi := hfl i
  rw [List.length_take] at hfi
  obtain ⟨A9, n9, c9, rfl, hl9, _⟩ := st.row 0 rfl
  refine X_seq ?_
  refine X_seq ?_
  refine X_reg ?_
  refine XR_a (op_move rfl) rfl rfl ?_
  refine XR_a (op_move rfl) rfl rfl ?_
  refine XR_a (op_len rfl rfl rfl) rfl rfl ?_
  refine XR_a (op_lss rfl rfl) rfl rfl ?_
  refine XR_nil ?_
  refine X_if rfl (fun h => ?_) (fun h => ?_)
  · have hil : i < ts.length := by omega
    have hil2 : i < ys.length := by omega
    obtain ⟨t, ht⟩ : ∃ t, ts[i] = t := ⟨_, rfl⟩
    have htm : t ∈ ts := ht ▸ List.getElem_mem hil
    have hy : ys[i] = splitY t := by subst hys; rw [List.getElem_map, ht]
    obtain ⟨x1, x2, o1, o2, o3, o4⟩ := splitY_ok (hR.2 t htm) (hby t htm)
    obtain ⟨y, hye⟩ : ∃ y, splitY t = y := ⟨_, rfl⟩
    rw [hye] at hy x1 x2 o1 o2 o3 o4
    obtain ⟨gy, oy, rfl, hcy⟩ := Rd.flat tokV 3 (hr.ext st.low) (fun _ => rfl) (by omega) (by omega)
    have hcx := hcy i hil
    rw [ht] at hcx
    have htk : (ys.take (i + 1)).flatMap (syB la lb) = (ys.take i).flatMap (syB la lb) ++ syB la lb y := by rw [List.take_succ_eq_append_getElem hil2, hy, List.flatMap_append]; simp
    refine X_skip ?_
    refine X_seq ?_
    refine X_block ?_
    refine X_seq ?_
    refine X_reg ?_
    refine XR_a (op_move rfl) rfl rfl ?_
    refine XR_a (op_move rfl) rfl rfl ?_
    refine XR_a (op_index (i := i) rfl rfl rfl (by omega)) rfl rfl ?_
    refine XR_a (op_ldA (vs := tokV t) hcx rfl rfl rfl rfl) rfl rfl ?_
    refine XR_wa (opl_call (split_ref (hR.2 t htm) (hby t htm) _) rfl (by kernel_rfl)) rfl rfl rfl ?_
    rintro _ hp4 ⟨rfl, hx4⟩
    replace st := st.ext hx4
    rw [hye]
    refine XR_a (op_move rfl) rfl rfl ?_
    refine XR_a (op_extract rfl rfl) rfl rfl ?_
    refine XR_a (op_extract rfl rfl) rfl rfl ?_
    refine XR_a (op_extract rfl rfl) rfl rfl ?_
    refine XR_wa (opl_new rfl) rfl rfl rfl ?_
    rintro _ hp1 ⟨p11, rfl, hnew⟩
    replace st := st.new hnew
    refine XR_wa (opl_new rfl) rfl rfl rfl ?_
    rintro _ hp1 ⟨p12, rfl, hnew⟩
    replace st := st.new hnew
    refine XR_wn (opl_store_whole (us := clsV y.a) st 1 rfl rfl rfl rfl rfl (clsV_one _) rfl) rfl rfl fun _ hp st => ?_
    simp only [List.set_cons_zero, List.set_cons_succ] at st
    refine XR_wn (opl_store_whole (us := clsV y.b) st 0 rfl rfl rfl rfl rfl (clsV_one _) rfl) rfl rfl fun _ hp st => ?_
    simp only [List.set_cons_zero, List.set_cons_succ] at st
    refine XR_a (op_assign rfl) rfl rfl ?_
    refine XR_nil ?_
    refine X_seq ?_
    refine X_reg ?_
    refine XR_a (op_move rfl) rfl rfl ?_
    refine XR_a (op_move rfl) rfl rfl ?_
    refine XR_a (op_move rfl) rfl rfl ?_
    refine XR_a (op_ldA (vs := clsV y.a) (st.cells 1 rfl) rfl rfl rfl rfl) rfl rfl ?_
    refine XR_wa (opl_call (bits13_ref (st.rdS 3 rfl).2 h273 (st.rdS 4 rfl).2 (by rw [vals_length]; exact h273) hokA x1 (by omega)) rfl (by kernel_rfl)) rfl rfl rfl ?_
    rintro v13 hp5 st5
    replace st := st.join st5
    simp only [List.cons_append, List.nil_append] at st
    obtain ⟨B1, m1, d1, rfl, hm1, _, _, hs1⟩ := st.row 0 rfl
    have hsl1 := symB_len hokA y.a
    refine XR_wa (opl_append st 3 rfl (hs1) (by rw [List.length_map, b01_length] at hm1 ⊢; omega) (one_bytes _) (by simp only [List.length_map, b01_length, List.length_append]; omega) rfl rfl rfl rfl rfl rfl rfl) rfl rfl rfl fun v hp st => ?_
    simp only [List.set_cons_zero, List.set_cons_succ] at st
    rw [← List.map_append] at st
    replace st := (St.re st 8 [0, 3, 1, 2, 4, 5, 6, 7] (by decide)).tail
    simp only [List.map_cons, List.map_nil, getR] at st
    obtain ⟨A9, n9, c9, rfl, hl9, _⟩ := st.row 0 rfl
    refine XR_a (op_assign rfl) rfl rfl ?_
    refine XR_nil ?_
    refine X_seq ?_
    refine X_reg ?_
    refine XR_a (op_move rfl) rfl rfl ?_
    refine XR_as (.bool (decide (y.m = true))) (congrArg Value.bool (by cases y.m <;> rfl)) ?_
    refine XR_nil ?_
    refine X_if rfl (fun h => ?_) (fun h => ?_)
    · refine X_reg ?_
      refine XR_a (op_move rfl) rfl rfl ?_
      refine XR_a (op_move rfl) rfl rfl ?_
      refine XR_a (op_move rfl) rfl rfl ?_
      refine XR_a (op_ldA (vs := clsV y.b) (st.cells 1 rfl) rfl rfl rfl rfl) rfl rfl ?_
      refine XR_wa (opl_call (bits13_ref (st.rdS 5 rfl).2 h30 (st.rdS 6 rfl).2 (by rw [vals_length]; exact h30) hokB x2 (by omega)) rfl (by kernel_rfl)) rfl rfl rfl ?_
      rintro v14 hp6 st6
      replace st := st.join st6
      simp only [List.cons_append, List.nil_append] at st
      obtain ⟨B1, m1, d1, rfl, hm1, _, _, hs1⟩ := st.row 0 rfl
      have hsl2 := symB_len hokB y.b
      refine XR_wa (opl_append st 1 rfl (hs1) (by rw [List.length_map, b01_length] at hm1 ⊢; omega) (one_bytes _) (by simp only [List.length_map, b01_length, List.length_append]; omega) rfl rfl rfl rfl rfl rfl rfl) rfl rfl rfl fun v hp st => ?_
      simp only [List.set_cons_zero, List.set_cons_succ] at st
      rw [← List.map_append] at st
      refine XR_a (op_assign rfl) rfl rfl ?_
      refine XR_nil ?_
      refine X_blk ?_
      refine X_reg ?_
      refine XR_a (op_move rfl) rfl rfl ?_
      first | refine XR_a (op_addN (n := 1) rfl rfl (by simp only [inK]; omega)) rfl rfl ?_ | refine XR_a (op_addI rfl rfl (by simp only [inK]; omega)) rfl rfl ?_ | refine XR_a (op_add rfl rfl) rfl rfl ?_
      refine XR_a (op_assign rfl) rfl rfl ?_
      refine XR_nil ?_
      have he : b01 (putR la ++ putR lb ++ (ys.take i).flatMap (syB la lb)) ++ b01 (symB la y.a) ++ b01 (symB lb y.b) = b01 (putR la ++ putR lb ++ (ys.take (i + 1)).flatMap (syB la lb)) := by
        rw [htk]; unfold syB b01; rw [if_pos h]; simp only [List.map_append, List.append_assoc]
      rw [he] at st
      exact X_again (i + 1, _) (.cons rfl (.cons rfl (.cons rfl (.cons rfl (.cons rfl (.cons rfl (.cons rfl (.nil _)))))))) ⟨by simp only; omega, (St.re st 8 [0, 2, 3, 1, 4, 5, 6, 7] (by decide)).tail.tail.tail⟩ (by simp only; omega)
    · refine X_skip ?_
      refine X_blk ?_
      refine X_reg ?_
      refine XR_a (op_move rfl) rfl rfl ?_
      first | refine XR_a (op_addN (n := 1) rfl rfl (by simp only [inK]; omega)) rfl rfl ?_ | refine XR_a (op_addI rfl rfl (by simp only [inK]; omega)) rfl rfl ?_ | refine XR_a (op_add rfl rfl) rfl rfl ?_
      refine XR_a (op_assign rfl) rfl rfl ?_
      refine XR_nil ?_
      have he : b01 (putR la ++ putR lb ++ (ys.take i).flatMap (syB la lb)) ++ b01 (symB la y.a) = b01 (putR la ++ putR lb ++ (ys.take (i + 1)).flatMap (syB la lb)) := by
        rw [htk]; unfold syB b01; rw [if_neg h]; simp only [List.map_append, List.append_assoc, List.append_nil]
      rw [he] at st
      exact X_again (i + 1, _) (.cons rfl (.cons rfl (.cons rfl (.cons rfl (.cons rfl (.cons rfl (.cons rfl (.nil _)))))))) ⟨by simp only; omega, (St.re st 7 [1, 2, 0, 3, 4, 5, 6] (by decide)).tail.tail⟩ (by simp only; omega)
  · rw [List.take_of_length_le (by omega)] at st hfi
    refine X_exit rfl ?_
    refine X_seq ?_
    refine X_reg ?_
    refine XR_a (op_move rfl) rfl rfl ?_
    refine XR_a (op_move rfl) rfl rfl ?_
    refine XR_a (op_move rfl) rfl rfl ?_
    refine XR_a (op_build (ps := [(0, .int .i64 256)]) (cs := (clsV ⟨256, 0, 0⟩).toArray) rfl rfl) rfl rfl ?_
    refine XR_wa (opl_call (bits13_ref (k := ⟨256, 0, 0⟩) (st.rdS 1 rfl).2 h273 (st.rdS 2 rfl).2 (by rw [vals_length]; exact h273) hokA (by decide) (by decide)) rfl (by kernel_rfl)) rfl rfl rfl ?_
    rintro v15 hp7 st7
    replace st := st.join st7
    simp only [List.cons_append, List.nil_append] at st
    obtain ⟨B1, m1, d1, rfl, hm1, _, _, hs1⟩ := st.row 0 rfl
    have hsl1 := symB_len hokA ⟨256, 0, 0⟩
    refine XR_wa (opl_append st 1 rfl (hs1) (by rw [List.length_map, b01_length] at hm1 ⊢; omega) (one_bytes _) (by simp only [List.length_map, b01_length, List.length_append]; omega) rfl rfl rfl rfl rfl rfl rfl) rfl rfl rfl fun v hp st => ?_
    simp only [List.set_cons_zero, List.set_cons_succ] at st
    rw [← List.map_append] at st
    refine XR_a (op_assign rfl) rfl rfl ?_
    refine XR_nil ?_
    refine X_ret (.cons (.tmp rfl) .nil) ?_
    have hz : symB la ⟨256, 0, 0⟩ = codeBits (val la 256) (lenAt la 256) := by unfold symB; simp [wd]; rfl
    have he : b01 (putR la ++ putR lb ++ ys.flatMap (syB la lb)) ++ b01 (symB la ⟨256, 0, 0⟩) = b01 (putR la ++ putR lb ++ ys.flatMap (syB la lb) ++ codeBits (val la 256) (lenAt la 256)) := by
      rw [hz]; unfold b01; simp only [List.map_append, List.append_assoc]
    rw [he] at st
    exact (St.re st 6 [0, 2, 3, 4, 5, 1] (by decide)).tail.tail.tail.tail.tail
end Go.Bn
end

section
namespace Go.Bn
open Go Proofs
theorem numB_here (Q : List Bool) {k x : Nat} (z : List Bool) (hx : x < 2 ^ k) : numB (Q ++ (bitsN k x ++ z)) Q.length k = x := by
  unfold numB
  rw [List.drop_left, List.take_append_of_le_length (by rw [bitsN_length]; exact Nat.le_refl _), List.take_of_length_le (by rw [bitsN_length]; exact Nat.le_refl _), valB_bitsN, Nat.mod_eq_of_lt hx]
theorem rH_rW (s : Nat) : rH s - rL s < 2 ^ rW s := by
  unfold rH rL rW
  split
  · decide
  · split
    · decide
    · split
      · decide
      · decide
theorem goT_parts {ls lens : List Nat} (hb : ∀ x ∈ ls, x ≤ 15) (hok : lensOK lens) (h19 : lens.length = 19) (z : List Bool) : ∀ (f a : Nat) (Q : List Bool), a ≤ ls.length → ls.length < a + f → (∀ x ∈ partsL ls a, lens.getD x.1 0 ≠ 0) →
    goT lens (Q ++ ((partsL ls a).flatMap (partBits lens) ++ z)) ls.length f Q.length (ls.take a) = (ls, (Q ++ (partsL ls a).flatMap (partBits lens)).length, 0)
  | 0, a, Q, ha, hf, hp => by omega
  | f + 1, a, Q, ha, hf, hp => by
    rw [goT]
    have hlt := List.length_take (l := ls) (i := a)
    rw [Nat.min_eq_left ha] at hlt
    rw [hlt]
    by_cases h : a < ls.length
    · rw [if_neg (by omega)]
      have hfit := partAt_fits hb h
      have hm := partAt_many h
      have hrl := runAt_le ls a
      have hadd := partAt_add hb h
      rw [partsL_cons h] at hp ⊢
      obtain ⟨x, hx⟩ : ∃ x, partAt ls a = x := ⟨_, rfl⟩
      rw [hx] at hfit hm hadd hp ⊢
      have hx0 := hp x List.mem_cons_self
      have hxl : x.1 < lens.length := by omega
      have hge := getD_eq hxl
      rw [hge] at hx0
      have ih := goT_parts hb hok h19 z f (a + x.2) (Q ++ partBits lens x) (by omega) (by omega) (fun y hy => hp y (List.mem_cons_of_mem _ hy))
      obtain ⟨R, hR⟩ : ∃ R, (partsL ls (a + x.2)).flatMap (partBits lens) = R := ⟨_, rfl⟩
      rw [List.flatMap_cons, hR]
      rw [hR] at ih
      have hpb : partBits lens x = codeBits (val lens x.1) lens[x.1] ++ bitsN (rW x.1) (x.2 - rL x.1) := by unfold partBits; rw [hge]
      obtain ⟨S, hS⟩ : ∃ S, Q ++ (partBits lens x ++ R ++ z) = S := ⟨_, rfl⟩
      have hS1 : S = Q ++ (codeBits (val lens x.1) lens[x.1] ++ (bitsN (rW x.1) (x.2 - rL x.1) ++ (R ++ z))) := by rw [← hS, hpb]; simp
      have hS2 : S = (Q ++ codeBits (val lens x.1) lens[x.1]) ++ (bitsN (rW x.1) (x.2 - rL x.1) ++ (R ++ z)) := by rw [hS1]; simp
      have hS3 : Q ++ partBits lens x ++ (R ++ z) = S := by rw [← hS]; simp
      have htk : takeC lens (S.drop Q.length) = (x.1, lens[x.1], 0) := by rw [hS1, List.drop_left]; exact takeC_put hok hxl hx0 _
      have hrw := rH_rW x.1
      have hnum : numB S (Q.length + lens[x.1]) (rW x.1) = x.2 - rL x.1 := by
        have := numB_here (Q ++ codeBits (val lens x.1) lens[x.1]) (R ++ z) (show x.2 - rL x.1 < 2 ^ rW x.1 by omega)
        rw [← hS2, List.length_append, codeBits_length] at this
        exact this
      have hSl : Q.length + lens[x.1] + rW x.1 ≤ S.length := by rw [hS2]; simp only [List.length_append, codeBits_length, bitsN_length]; omega
      rw [hS3] at ih
      rw [hS, htk]
      simp only
      rw [hnum, if_neg (by omega), if_neg (by omega), if_neg (fun hh => by have := hfit.2.2.2 hh.1; omega), if_neg (by omega), show rL x.1 + (x.2 - rL x.1) = x.2 by omega, hadd]
      rw [show (Q ++ partBits lens x).length = Q.length + lens[x.1] + rW x.1 by rw [hpb]; simp only [List.length_append, codeBits_length, bitsN_length]; omega] at ih
      rw [ih]
      simp only [List.append_assoc]
    · rw [if_pos (by omega), partsL_end (by omega), List.take_of_length_le (by omega)]
      simp
theorem putHead_len_eq (l : List Nat) : ∀ i, i ≤ 19 → (putHead l i).length = 9 + 4 * i
  | 0, _ => by unfold putHead; simp [bitsN_length]
  | i + 1, h => by
    rw [putHead_succ (by omega), List.length_append, putHead_len_eq l i (by omega), bitsN_length]; omega
theorem putHead_pre (l : List Nat) : ∀ j i, i + j = 19 → ∃ r, putHead l 19 = putHead l i ++ r
  | 0, i, h => ⟨[], by rw [List.append_nil, show i = 19 by omega]⟩
  | j + 1, i, h => by
    obtain ⟨r, hr⟩ := putHead_pre l j (i + 1) (by omega)
    exact ⟨bitsN 4 ((plens l).getD i 0) ++ r, by rw [hr, putHead_succ (by omega), List.append_assoc]⟩
theorem takeR_putQ {ls : List Nat} (hb : ∀ x ∈ ls, x ≤ 15) (h1 : 1 ≤ ls.length) (h320 : ls.length ≤ 320) (Q z : List Bool) : takeR (Q ++ (putR ls ++ z)) Q.length (okR (Q ++ (putR ls ++ z)) Q.length) = (ls, Q.length + (putR ls).length, 0) := by
  have hok := plens_ok hb h1
  have h19 := plens_len ls
  have hl85 := putHead_len_eq ls 19 (by omega)
  obtain ⟨R, hR⟩ : ∃ R, (partsL ls 0).flatMap (partBits (plens ls)) = R := ⟨_, rfl⟩
  have hput : putR ls = putHead ls 19 ++ R := by unfold putR; rw [hR]
  obtain ⟨S, hS⟩ : ∃ S, Q ++ (putR ls ++ z) = S := ⟨_, rfl⟩
  have hS1 : S = Q ++ (putHead ls 19 ++ (R ++ z)) := by rw [← hS, hput, List.append_assoc]
  have hn : numB S Q.length 9 = ls.length := by
    have := numB_here Q (k := 9) (x := ls.length) (((plens ls).take 19).flatMap (bitsN 4) ++ (R ++ z)) (by omega)
    rw [hS1]
    unfold putHead
    rw [List.append_assoc]
    exact this
  have hlens : lens19 S (Q.length + 9) 19 = plens ls := by
    refine List.ext_getElem (by rw [lens19_len, h19]) fun k q1 q2 => ?_
    simp only [lens19, List.getElem_map, List.getElem_range]
    rw [if_pos (by omega)]
    obtain ⟨r, hr⟩ := putHead_pre ls (18 - k) (k + 1) (by omega)
    have hle := hok.2.2.1 _ (List.getElem_mem q2)
    have := numB_here (Q ++ putHead ls k) (k := 4) (x := (plens ls)[k]) (r ++ (R ++ z)) (by omega)
    rw [List.length_append, putHead_len_eq ls k (by omega)] at this
    rw [hS1, hr, putHead_succ (by omega), getD_eq q2, List.append_assoc, List.append_assoc]
    rw [show Q.length + 9 + 4 * k = Q.length + (9 + 4 * k) by omega]
    rw [List.append_assoc] at this
    exact this
  have hokr : okR S Q.length = true := by
    unfold okR
    rw [hlens]
    refine decide_eq_true ?_
    refine ⟨by rw [List.length_map, h19]; omega, ⟨by rw [List.length_map, h19]; omega, fun x hx => ?_⟩, by rw [cast_toNat]; exact hok.2.2.2⟩
    obtain ⟨y, hy, rfl⟩ := List.mem_map.1 hx
    have := hok.2.2.1 y hy; omega
  have hSl : Q.length + 85 ≤ S.length := by rw [hS1, List.length_append, List.length_append]; omega
  rw [hS, hokr]
  have hH : headE S Q.length true = 0 := by
    unfold headE
    rw [if_neg (by omega), hn, if_neg (by omega), if_neg (by omega), if_pos rfl]
  unfold takeR
  rw [if_neg (by omega), hlens, hn]
  have := goT_parts hb hok h19 z 321 0 (Q ++ putHead ls 19) (by omega) (by omega) (fun x hx => plens_pos hb hx)
  rw [hR, List.append_assoc, ← hS1, List.take_zero, List.length_append, hl85, List.append_assoc, ← hput, List.length_append] at this
  exact this
theorem clsT_back {ls : List Nat} (hok : lensOK ls) {c : Kls} {n fr : Nat} (hn : c.num = n) (hl : n < ls.length) (h0 : ls[n] ≠ 0) (hlit : n < fr → c.bits = 0 ∧ c.ext = 0) (hbig : fr ≤ n → c.bits = bitsC (n - fr) ∧ 0 ≤ c.ext ∧ c.ext < ((2 ^ bitsC (n - fr) : Nat) : Int)) (h32 : fr ≤ n → bitsC (n - fr) ≤ 32) (Q Z : List Bool) :
    clsT ls fr (Q ++ (symB ls c ++ Z)) Q.length = (c, Q.length + (symB ls c).length, 0) := by
  have hge : lenAt ls c.num = ls[n] := by
    unfold lenAt
    rw [hn, if_neg (by omega), Int.toNat_natCast]
    exact getD_get hl
  obtain ⟨cn, cb, ce⟩ := c
  simp only at hn hlit hbig hge ⊢
  subst hn
  have hsy : symB ls ⟨n, cb, ce⟩ = codeBits (val ls n) ls[n] ++ bitsN (wd 32 cb) ce.toNat := by
    unfold symB
    simp only [Int.toNat_natCast]
    rw [hge]
  obtain ⟨S, hS⟩ : ∃ S, Q ++ (symB ls ⟨n, cb, ce⟩ ++ Z) = S := ⟨_, rfl⟩
  have hS1 : S = Q ++ (codeBits (val ls n) ls[n] ++ (bitsN (wd 32 cb) ce.toNat ++ Z)) := by rw [← hS, hsy, List.append_assoc]
  have hS2 : S = (Q ++ codeBits (val ls n) ls[n]) ++ (bitsN (wd 32 cb) ce.toNat ++ Z) := by rw [hS1]; simp
  have htk : takeC ls (S.drop Q.length) = (n, ls[n], 0) := by rw [hS1, List.drop_left]; exact takeC_put hok hl h0 _
  have hslen : (symB ls ⟨n, cb, ce⟩).length = ls[n] + wd 32 cb := by rw [hsy, List.length_append, codeBits_length, bitsN_length]
  rw [hS, hslen]
  unfold clsT
  rw [htk]
  simp only
  by_cases hlt : n < fr
  · obtain ⟨rfl, rfl⟩ := hlit hlt
    rw [if_pos (.inr hlt)]
    rfl
  · obtain ⟨hb, he1, he2⟩ := hbig (by omega)
    have h32 := h32 (by omega)
    obtain ⟨e, rfl⟩ : ∃ e : Nat, ce = e := ⟨ce.toNat, by omega⟩
    have hw : wd 32 cb = bitsC (n - fr) := by unfold wd; omega
    have he3 : e < 2 ^ bitsC (n - fr) := by omega
    rw [hw, Int.toNat_natCast] at hS2
    have hnum : numB S (Q.length + ls[n]) (bitsC (n - fr)) = e := by
      have := numB_here (Q ++ codeBits (val ls n) ls[n]) Z he3
      rw [← hS2, List.length_append, codeBits_length] at this
      exact this
    have hSl : Q.length + ls[n] + bitsC (n - fr) ≤ S.length := by rw [hS2]; simp only [List.length_append, codeBits_length, bitsN_length]; omega
    rw [if_neg (by omega), if_neg (by omega), hnum, hw, hb]
    simp only [Nat.add_assoc]
theorem klsOf_ok (v : Nat) : (klsOf v).num = klsN v ∧ (klsOf v).bits = bitsC (klsN v) ∧ 0 ≤ (klsOf v).ext ∧ (klsOf v).ext < ((2 ^ bitsC (klsN v) : Nat) : Int) := by
  obtain ⟨h1, h2, _⟩ := klsN_between v
  rw [show baseC (klsN v + 1) = baseC (klsN v) + 2 ^ bitsC (klsN v) from rfl] at h2
  refine ⟨rfl, rfl, by simp only [klsOf]; omega, by simp only [klsOf]; omega⟩
theorem bitsC_le {i : Nat} (h : i < 30) : bitsC i ≤ 32 := by unfold bitsC; split <;> omega
theorem nextT_back {la lb : List Nat} (oka : lensOK la) (okb : lensOK lb) (h273 : la.length = 273) (h30 : lb.length = 30) {t : Tok} (ht : t.right) (hby : 0 ≤ t.byte ∧ t.byte < 256)
    (ha : la.getD (splitY t).a.num.toNat 0 ≠ 0) (hb : (splitY t).m = true → lb.getD (splitY t).b.num.toNat 0 ≠ 0) (Q Z : List Bool) :
    nextT la lb (Q ++ (syB la lb (splitY t) ++ Z)) Q.length = (t, Q.length + (syB la lb (splitY t)).length, false, 0) := by
  obtain ⟨hj, n1, n2, n3, n4, n5⟩ := join_split ht hby
  have ht' := ht
  unfold Tok.right at ht
  by_cases h0 : t.len = 0
  · rw [if_pos h0] at ht
    have e : splitY t = ⟨⟨t.byte, 0, 0⟩, Kls.nil, false⟩ := by unfold splitY; rw [if_pos h0]
    rw [e] at hj ha ⊢
    obtain ⟨n, hn⟩ : ∃ n : Nat, t.byte = n := ⟨t.byte.toNat, by omega⟩
    simp only [hn, Int.toNat_natCast] at hj ha ⊢
    have hl : n < la.length := by omega
    rw [getD_get hl] at ha
    have hsy : syB la lb ⟨⟨n, 0, 0⟩, Kls.nil, false⟩ = symB la ⟨n, 0, 0⟩ := by unfold syB; simp
    rw [hsy]
    have hc := clsT_back oka (c := ⟨n, 0, 0⟩) (fr := 257) rfl hl ha (fun _ => ⟨rfl, rfl⟩) (fun h => by omega) (fun h => by omega) Q Z
    unfold nextT
    rw [hc]
    simp only
    rw [if_neg (by omega), if_neg (by omega), hj, if_pos rfl]
  · rw [if_neg h0] at ht
    obtain ⟨g1, g2, g3, g4, g5⟩ := ht
    have e : splitY t = ⟨⟨(klsOf (t.len - 3).toNat).num + 257, (klsOf (t.len - 3).toNat).bits, (klsOf (t.len - 3).toNat).ext⟩, klsOf (t.dist - 1).toNat, true⟩ := by unfold splitY; rw [if_neg h0]
    have k1 := klsN_255 (show (t.len - 3).toNat < 256 by omega)
    have k2 := (klsN_between (t.dist - 1).toNat).2.2 (by omega)
    obtain ⟨p1, p2, p3, p4⟩ := klsOf_ok (t.len - 3).toNat
    obtain ⟨q1, q2, q3, q4⟩ := klsOf_ok (t.dist - 1).toNat
    rw [e] at hj ha hb ⊢
    obtain ⟨ka, hka⟩ : ∃ k, klsOf (t.len - 3).toNat = k := ⟨_, rfl⟩
    obtain ⟨kb, hkb⟩ : ∃ k, klsOf (t.dist - 1).toNat = k := ⟨_, rfl⟩
    obtain ⟨na, hna⟩ : ∃ k, klsN (t.len - 3).toNat = k := ⟨_, rfl⟩
    obtain ⟨nb, hnb⟩ : ∃ k, klsN (t.dist - 1).toNat = k := ⟨_, rfl⟩
    rw [hka, hna] at p1 p2 p4
    rw [hka] at p3 hj ha hb ⊢
    rw [hkb, hnb] at q1 q2 q4
    rw [hkb] at q3 hj hb ⊢
    rw [hna] at k1
    rw [hnb] at k2
    have hb := hb rfl
    simp only at ha hb
    rw [show (ka.num + 257).toNat = na + 257 by omega] at ha
    rw [show kb.num.toNat = nb by omega] at hb
    have hla : na + 257 < la.length := by omega
    have hlb : nb < lb.length := by omega
    rw [getD_get hla] at ha
    rw [getD_get hlb] at hb
    have hsy : syB la lb ⟨⟨ka.num + 257, ka.bits, ka.ext⟩, kb, true⟩ = symB la ⟨ka.num + 257, ka.bits, ka.ext⟩ ++ symB lb kb := by unfold syB; rw [if_pos rfl]
    rw [hsy]
    have hc := clsT_back oka (c := ⟨ka.num + 257, ka.bits, ka.ext⟩) (n := na + 257) (fr := 257) (by show ka.num + 257 = ((na + 257 : Nat) : Int); omega) hla ha (fun h => by omega) (fun _ => by rw [show na + 257 - 257 = na by omega]; exact ⟨p2, p3, p4⟩) (fun _ => bitsC_le (by omega)) Q (symB lb kb ++ Z)
    have hd := clsT_back okb (c := kb) (n := nb) (fr := 0) q1 hlb hb (fun h => by omega) (fun _ => ⟨q2, q3, q4⟩) (fun _ => bitsC_le (by omega)) (Q ++ symB la ⟨ka.num + 257, ka.bits, ka.ext⟩) Z
    rw [List.length_append, List.append_assoc] at hd
    unfold nextT
    rw [List.append_assoc, hc]
    simp only
    rw [if_neg (by omega), if_pos (by omega), hd]
    simp only
    rw [if_neg (by omega), hj, if_pos rfl, List.length_append, Nat.add_assoc]
theorem nextT_end {la lb : List Nat} (oka : lensOK la) (h273 : la.length = 273) (ha : la.getD 256 0 ≠ 0) (Q Z : List Bool) :
    nextT la lb (Q ++ (codeBits (val la 256) (lenAt la 256) ++ Z)) Q.length = (Tok.nil, Q.length + (codeBits (val la 256) (lenAt la 256)).length, true, 0) := by
  have hl : 256 < la.length := by omega
  rw [getD_get hl] at ha
  have hsy : symB la ⟨(256 : Nat), 0, 0⟩ = codeBits (val la 256) (lenAt la 256) := by unfold symB; simp [wd]; rfl
  have hc := clsT_back oka (c := ⟨(256 : Nat), 0, 0⟩) (fr := 257) rfl hl ha (fun _ => ⟨rfl, rfl⟩) (fun h => by omega) (fun h => by omega) Q Z
  rw [hsy] at hc
  unfold nextT
  rw [hc]
  simp only
  rw [if_pos (.inr rfl)]
def distOK : Nat → List Tok → Prop
  | _, [] => True
  | sz, t :: ts => t.dist ≤ sz ∧ distOK (sz + t.size) ts
def sizeT (ts : List Tok) : Nat := (ts.map Tok.size).sum
theorem goB_back {la lb : List Nat} (oka : lensOK la) (okb : lensOK lb) (h273 : la.length = 273) (h30 : lb.length = 30) (h256 : la.getD 256 0 ≠ 0) (Z : List Bool) {most : Int} : ∀ (ts : List Tok), (∀ t ∈ ts, t.right ∧ (0 ≤ t.byte ∧ t.byte < 256) ∧ la.getD (splitY t).a.num.toNat 0 ≠ 0 ∧ ((splitY t).m = true → lb.getD (splitY t).b.num.toNat 0 ≠ 0)) → ∀ (f sz : Nat) (acc : List Tok) (Q : List Bool), ts.length < f → distOK sz ts → ((sz + sizeT ts : Nat) : Int) ≤ most →
    goB la lb (Q ++ ((ts.map splitY).flatMap (syB la lb) ++ (codeBits (val la 256) (lenAt la 256) ++ Z))) most f Q.length sz acc = (acc ++ ts, sz + sizeT ts, Q.length + ((ts.map splitY).flatMap (syB la lb)).length + (codeBits (val la 256) (lenAt la 256)).length, 0)
  | [], _, f, sz, acc, Q, hf, _, _ => by
    obtain ⟨g, rfl⟩ : ∃ g, f = g + 1 := ⟨f - 1, by simp at hf; omega⟩
    have hn := nextT_end (lb := lb) oka h273 h256 Q Z
    rw [List.map_nil, List.flatMap_nil, List.nil_append, goB, hn]
    simp [sizeT]
  | t :: ts, h, f, sz, acc, Q, hf, hd, hm => by
    obtain ⟨g, rfl⟩ : ∃ g, f = g + 1 := ⟨f - 1, by simp at hf; omega⟩
    obtain ⟨h1, h2, h3, h4⟩ := h t List.mem_cons_self
    obtain ⟨d1, d2⟩ := hd
    have hst : sizeT (t :: ts) = t.size + sizeT ts := by simp [sizeT]
    rw [hst] at hm ⊢
    rw [List.map_cons, List.flatMap_cons, List.append_assoc]
    have hn := nextT_back oka okb h273 h30 h1 h2 h3 h4 Q ((ts.map splitY).flatMap (syB la lb) ++ (codeBits (val la 256) (lenAt la 256) ++ Z))
    have ih := goB_back oka okb h273 h30 h256 Z (most := most) ts (fun x hx => h x (List.mem_cons_of_mem _ hx)) g (sz + t.size) (acc ++ [t]) (Q ++ syB la lb (splitY t)) (by simp at hf; omega) d2 (by omega)
    rw [goB, hn]
    simp only
    rw [if_neg (by simp), if_neg (by omega), if_neg (by omega)]
    rw [List.append_assoc, List.length_append] at ih
    rw [ih, List.length_append]
    simp only [List.append_assoc, List.cons_append, List.nil_append, Prod.mk.injEq, and_true, true_and]
    omega
end Go.Bn
end

section
namespace Go.Bn
open Go Proofs
theorem getD_lensW {ws : List Nat} {s : Nat} (h2 : ws.length ≤ 16000) (hs : s < ws.length) (hp : 0 < ws.getD s 0) : (lensW ws).getD s 0 ≠ 0 := by
  rw [lensW_get hs]
  have := lenW_pos (ws := ws) h2 (mem_syms.2 ⟨hs, hp⟩)
  omega
theorem foldW_mem : ∀ (ys : List Sy) (s : List Nat × List Nat × Nat) (y : Sy), s.1.length = 273 → s.2.1.length = 30 → y.a.num.toNat < 273 → y.b.num.toNat < 30 →
    ((y ∈ ys ∨ 0 < s.1.getD y.a.num.toNat 0) → 0 < (ys.foldl stepW s).1.getD y.a.num.toNat 0) ∧ ((y.m = true ∧ y ∈ ys ∨ 0 < s.2.1.getD y.b.num.toNat 0) → 0 < (ys.foldl stepW s).2.1.getD y.b.num.toNat 0) ∧ ((y.m = true ∧ y ∈ ys ∨ 0 < s.2.2) → 0 < (ys.foldl stepW s).2.2)
  | [], s, y, _, _, _, _ => ⟨fun h => h.resolve_left (by simp), fun h => h.resolve_left (by simp), fun h => h.resolve_left (by simp)⟩
  | z :: ys, s, y, h1, h2, h3, h4 => by
    rw [List.foldl_cons]
    obtain ⟨i1, i2, i3⟩ := foldW_mem ys (stepW s z) y (by simp only [stepW]; rw [addAt_length]; exact h1) (by simp only [stepW]; split; rw [addAt_length]; exact h2; exact h2) h3 h4
    refine ⟨fun h => i1 ?_, fun h => i2 ?_, fun h => i3 ?_⟩
    · rcases h with h | h
      · rcases List.mem_cons.1 h with rfl | h
        · exact .inr (addAt_pos (by omega))
        · exact .inl h
      · exact .inr (Nat.lt_of_lt_of_le h (addAt_ge _ _ _))
    · simp only [stepW]
      rcases h with ⟨hm, h⟩ | h
      · rcases List.mem_cons.1 h with rfl | h
        · rw [if_pos hm]; exact .inr (addAt_pos (by omega))
        · exact .inl ⟨hm, h⟩
      · refine .inr ?_
        split
        · exact Nat.lt_of_lt_of_le h (addAt_ge _ _ _)
        · exact h
    · simp only [stepW]
      rcases h with ⟨hm, h⟩ | h
      · rcases List.mem_cons.1 h with rfl | h
        · rw [if_pos hm]; exact .inr (Nat.succ_pos _)
        · exact .inl ⟨hm, h⟩
      · refine .inr ?_
        split <;> omega
theorem lA_pos {ys : List Sy} {y : Sy} (hy : y ∈ ys) (h3 : y.a.num.toNat < 273) (h4 : y.b.num.toNat < 30) : (lA ys).getD y.a.num.toNat 0 ≠ 0 := by
  have hs : startW.1.length = 273 ∧ startW.2.1.length = 30 := by decide +kernel
  unfold lA
  exact getD_lensW (by rw [firstW_len]; decide) (by rw [firstW_len]; exact h3) ((foldW_mem ys startW y hs.1 hs.2 h3 h4).1 (.inl hy))
theorem lA_256 (ys : List Sy) : (lA ys).getD 256 0 ≠ 0 := by
  unfold lA
  exact getD_lensW (by rw [firstW_len]; decide) (by rw [firstW_len]; decide) (foldW_first ys)
theorem lB_pos {ys : List Sy} {y : Sy} (hy : y ∈ ys) (h3 : y.a.num.toNat < 273) (h4 : y.b.num.toNat < 30) (hm : y.m = true) : (lB ys).getD y.b.num.toNat 0 ≠ 0 := by
  have hs : startW.1.length = 273 ∧ startW.2.1.length = 30 := by decide +kernel
  obtain ⟨_, i2, i3⟩ := foldW_mem ys startW y hs.1 hs.2 h3 h4
  have h0 := i3 (.inl ⟨hm, hy⟩)
  unfold lB
  refine getD_lensW (by rw [secondW_len]; decide) (by rw [secondW_len]; exact h4) ?_
  unfold secondW
  rw [if_neg (by unfold foldW; omega)]
  exact i2 (.inl ⟨hm, hy⟩)
theorem lA_len (ys : List Sy) : (lA ys).length = 273 := by unfold lA; rw [lensW_length, firstW_len]
theorem lB_len (ys : List Sy) : (lB ys).length = 30 := by unfold lB; rw [lensW_length, secondW_len]
theorem blockT_back {ts : List Tok} (hR : rightL ts) (hby : ∀ t ∈ ts, 0 ≤ t.byte ∧ t.byte < 256) (hd : distOK 0 ts) {most : Int} (hm : (sizeT ts : Int) ≤ most) (Z : List Bool) :
    blockT (blockB (ts.map splitY) ++ Z) most = (ts, sizeT ts, (blockB (ts.map splitY)).length, 0) := by
  obtain ⟨ys, hys⟩ : ∃ ys, ts.map splitY = ys := ⟨_, rfl⟩
  have hY : ∀ y ∈ ys, 0 ≤ y.a.num ∧ y.a.num < 273 ∧ 0 ≤ y.b.num ∧ y.b.num < 30 := fun y hy => by
    rw [← hys] at hy
    obtain ⟨t, ht, rfl⟩ := List.mem_map.1 hy
    obtain ⟨_, h1, h2, _, h3, h4⟩ := join_split (hR.2 t ht) (hby t ht)
    exact ⟨h1, h2, h3, h4⟩
  have oka := lA_ok ys
  have okb := lB_ok (ys := ys) (fun y hy => by have := hY y hy; omega)
  have hla := lA_len ys
  have hlb := lB_len ys
  have h256 := lA_256 ys
  have hT : ∀ t ∈ ts, t.right ∧ (0 ≤ t.byte ∧ t.byte < 256) ∧ (lA ys).getD (splitY t).a.num.toNat 0 ≠ 0 ∧ ((splitY t).m = true → (lB ys).getD (splitY t).b.num.toNat 0 ≠ 0) := fun t ht => by
    have hm : splitY t ∈ ys := by rw [← hys]; exact List.mem_map_of_mem ht
    obtain ⟨h1, h2, h3, h4⟩ := hY _ hm
    exact ⟨hR.2 t ht, hby t ht, lA_pos hm (by omega) (by omega), lB_pos hm (by omega) (by omega)⟩
  rw [hys]
  obtain ⟨la, hA⟩ : ∃ x, lA ys = x := ⟨_, rfl⟩
  obtain ⟨lb, hB⟩ : ∃ x, lB ys = x := ⟨_, rfl⟩
  have hbl : blockB ys = putR la ++ putR lb ++ ys.flatMap (syB la lb) ++ codeBits (val la 256) (lenAt la 256) := by unfold blockB; rw [hA, hB]
  rw [hA] at oka hla h256 hT
  rw [hB] at okb hlb hT
  obtain ⟨S, hS⟩ : ∃ S, blockB ys ++ Z = S := ⟨_, rfl⟩
  have hS1 : S = [] ++ (putR la ++ (putR lb ++ (ys.flatMap (syB la lb) ++ (codeBits (val la 256) (lenAt la 256) ++ Z)))) := by rw [← hS, hbl]; simp
  have hS2 : S = putR la ++ (putR lb ++ (ys.flatMap (syB la lb) ++ (codeBits (val la 256) (lenAt la 256) ++ Z))) := by rw [hS1]; rfl
  have hS3 : S = (putR la ++ putR lb) ++ (ys.flatMap (syB la lb) ++ (codeBits (val la 256) (lenAt la 256) ++ Z)) := by rw [hS2]; simp
  have t1 := takeR_putQ oka.2.2.1 oka.1 oka.2.1 [] (putR lb ++ (ys.flatMap (syB la lb) ++ (codeBits (val la 256) (lenAt la 256) ++ Z)))
  rw [← hS1, List.length_nil, Nat.zero_add] at t1
  have t2 := takeR_putQ okb.2.2.1 okb.1 okb.2.1 (putR la) (ys.flatMap (syB la lb) ++ (codeBits (val la 256) (lenAt la 256) ++ Z))
  rw [← hS2] at t2
  have hC : codesT S 0 = (0, la, lb, (putR la).length + (putR lb).length) := by
    unfold codesT
    rw [t1]
    simp only
    rw [t2]
    simp only
    rw [if_neg (by omega), if_neg (by omega), if_neg (by omega), if_neg (by rintro (h | h); exact h (rightC_cast oka); exact h (rightC_cast okb))]
  have hlen : S.length = (blockB ys).length + Z.length := by rw [← hS, List.length_append]
  have hyl : ys.length = ts.length := by rw [← hys, List.length_map]
  have hg := goB_back oka okb hla hlb h256 Z (most := most) ts hT (S.length + 1) 0 [] (putR la ++ putR lb) (by
    have : ∀ l : List Sy, (∀ y ∈ l, 1 ≤ (syB la lb y).length) → l.length ≤ (l.flatMap (syB la lb)).length := by
      intro l
      induction l with
      | nil => intro _; simp
      | cons y l ih =>
        intro h
        have h1 := h y List.mem_cons_self
        have h2 := ih fun z hz => h z (List.mem_cons_of_mem _ hz)
        rw [List.flatMap_cons, List.length_append, List.length_cons]; omega
    have h1 := this ys fun y hy => by
      rw [← hys] at hy
      obtain ⟨t, ht, rfl⟩ := List.mem_map.1 hy
      obtain ⟨_, _, g3, _⟩ := hT t ht
      have g := hY (splitY t) (by rw [← hys]; exact List.mem_map_of_mem ht)
      unfold syB symB
      rw [List.length_append, List.length_append, codeBits_length]
      have : lenAt la (splitY t).a.num = la.getD (splitY t).a.num.toNat 0 := by unfold lenAt; rw [if_neg (by omega)]
      omega
    rw [hS3]
    simp only [List.length_append]
    omega) hd (by rw [Nat.zero_add]; exact hm)
  rw [hys, ← hS3] at hg
  rw [hS]
  unfold blockT
  rw [hC]
  simp only
  rw [if_neg (by omega), ← List.length_append, hg, hbl]
  simp only [List.nil_append, Nat.zero_add, List.length_append, Prod.mk.injEq, and_true, true_and]
end Go.Bn
end

section
set_option linter.unusedVariables false
set_option linter.unusedSimpArgs false
set_option maxHeartbeats 4000000
set_option maxRecDepth 20000
namespace Go.Bn
open Go Proofs
section
variable {P : Program} {E : Env} {hp : Heap} {cl : Cls} {d : Option Tmp} {ty : TypeId} {pos : String} {af : Array Edge} {g : Option (Nat × Bool)} {x : Operand} {t : TypeId}
theorem opl_litA {e sz b : Nat} {zs us : List Value} {ua : Array Value} (hx : ev E x = some (.agg ua)) (ht : sliceI P t = some (e, sz, b, zs)) (hn : Nat.ble (1 * sz) 16777216 = true) (hs : Nat.blt 0 (1 * sz) = true) (hc : sliceCells 1 sz zs [(0, .agg ua)] = some us.toArray) (hl : us.length = 1 * sz) :
    OpL P ⟨d, .buildSlice t 1 #[(0, x)], ty, pos, af, g⟩ E hp (fun u hp' => New (row e sz u us) hp hp') := by
  intro n a w ho hw K hK
  have hps : evP E (#[(0, x)] : Array (Nat × Operand)).toList = some [(0, .agg ua)] := by simp [evP, hx]
  refine opl_buildSlice hps ht hn hs hc n a w ho hw K fun v' w' hi ⟨h1, h2⟩ => hK v' w' hi ?_
  rw [h1, h2]
  exact new_row hp e sz 1 us hl (by simp only [maxLen]; omega)
end
theorem blockB_len {ys : List Sy} (hb : ∀ y ∈ ys, y.b.num.toNat < 30) : (blockB ys).length ≤ 7000 + 94 * ys.length := by
  have hA := lA_ok ys
  have hB := lB_ok hb
  have h1 := putR_len hA
  have h2 := putR_len hB
  have h3 := flat_bd (syB (lA ys) (lB ys)) 94 (syB_len hA hB) ys
  have h4 := lens_le hA 256
  rw [lA_len] at h1
  rw [lB_len] at h2
  unfold blockB
  simp only [List.length_append, codeBits_length]
  omega
theorem split_b30 {ts : List Tok} (hR : rightL ts) (hby : ∀ t ∈ ts, 0 ≤ t.byte ∧ t.byte < 256) : ∀ y ∈ ts.map splitY, y.b.num.toNat < 30 := fun y hy => by
  obtain ⟨t, ht, rfl⟩ := List.mem_map.1 hy
  have := splitY_ok (hR.2 t ht) (hby t ht)
  omega
theorem lives13 (h0 : Heap) : Ret Tryz.prog 9 [] h0 fun v h' => v = .bool true ∧ Ext h0 h' := by
  have hR : rightL [(⟨7, 0, 0⟩ : Tok)] := by decide
  have hby : ∀ t ∈ [(⟨7, 0, 0⟩ : Tok)], 0 ≤ t.byte ∧ t.byte < 256 := by decide
  have hbl := blockB_len (split_b30 hR hby)
  have hdis : distOK 0 [(⟨7, 0, 0⟩ : Tok)] := ⟨by decide, trivial⟩
  have hback := fun Z => blockT_back hR hby hdis (most := 1) (by decide) Z
  rw [List.length_map] at hbl
  obtain ⟨BL, hBL⟩ : ∃ BL, blockB ([(⟨7, 0, 0⟩ : Tok)].map splitY) = BL := ⟨_, rfl⟩
  rw [hBL] at hbl
  simp only [hBL] at hback
  have hbl : BL.length ≤ 7094 := by simpa using hbl
  refine ret_of_X Tryz.func9 rfl rfl fun w0 hw0 => ?_
  simp only [argE, Nat.zero_add, Nat.reduceAdd]
  refine X_seq ?_
  refine X_reg ?_
  refine XR_a (op_assign rfl) rfl rfl ?_
  refine XR_nil ?_
  refine X_seq ?_
  refine X_reg ?_
  refine XR_wa (opl_new rfl) rfl rfl rfl ?_
  rintro _ hp ⟨p1, rfl, hnew⟩
  have st := ((St.start h0).new hnew).wr0
  refine XR_nil ?_
  refine X_seq ?_
  refine X_reg ?_
  refine XR_a (op_build (ps := [(0, .int .u8 7)]) (cs := (tokV ⟨7, 0, 0⟩).toArray) rfl rfl) rfl rfl ?_
  refine XR_wa (opl_litA (us := tokV ⟨7, 0, 0⟩) rfl rfl rfl rfl (by kernel_rfl) rfl) rfl rfl rfl ?_
  rintro v2 hp2 hnew
  replace st := (st.new hnew).perm (List.Perm.swap _ _ _)
  obtain ⟨A2, n2, c2, rfl, hl2, _⟩ := st.row 1 rfl
  obtain rfl : n2 = 1 := by simp at hl2; omega
  refine XR_wa (opl_call (bput_spec (n := 1) (ts := [⟨7, 0, 0⟩]) st.here (fun h' rs hs => hs.rdM (List.mem_append_right _ List.mem_cons_self)) rfl (by omega) hby (by simp)) rfl (by kernel_rfl)) rfl rfl rfl ?_
  rintro _ hp3 ⟨rfl, st3⟩
  rw [if_pos hR, hBL] at st3
  rw [if_pos hR]
  replace st := st.trans st3
  rw [List.nil_append] at st
  clear st3
  refine XR_a (op_assign rfl) rfl rfl ?_
  refine XR_nil ?_
  refine X_seq ?_
  refine X_reg ?_
  refine XR_wa (opl_call (wbytes_spec st.here (by omega)) rfl (by kernel_rfl)) rfl rfl rfl ?_
  rintro v3 hp4 st4
  have hpk := bitsB_pack BL
  have hpkl := pack_length BL
  obtain ⟨pk, hpke⟩ : ∃ pk, pack BL = pk := ⟨_, rfl⟩
  rw [hpke] at st4 hpk hpkl
  obtain ⟨A3, n3, c3, rfl, hlen3, _, _, hrd3⟩ := st4.row 0 rfl
  rw [List.length_map, Nat.mul_one] at hlen3
  have hx4 : Ext h0 hp4 := st.low.trans (st4.low.mono st.low.size)
  refine XR_wa (opl_call (rnew_spec) rfl (by kernel_rfl)) rfl rfl rfl ?_
  rintro _ hp5 ⟨q, rfl, st5⟩
  refine XR_wa (opl_call (btake_spec (most := 1) st5.here (fun h' hl' => hrd3.ext (st5.low.trans hl')) hlen3 (by omega) (by simp only [inK]; omega)) rfl (by kernel_rfl)) rfl rfl rfl ?_
  rintro _ hp6 ⟨w, a', rfl, _, _, st6⟩
  rw [hpk, hback] at st6
  rw [hpk, hback]
  simp only at st6
  replace st6 := st5.trans st6
  obtain ⟨A6, n6, c6, rfl, hl6, _⟩ := st6.row0 1 rfl (by simp)
  obtain rfl : n6 = 1 := by simp at hl6; omega
  refine XR_a (op_move rfl) rfl rfl ?_
  refine XR_a (op_extract rfl rfl) rfl rfl ?_
  refine XR_a (op_extract rfl rfl) rfl rfl ?_
  refine XR_a (op_assign rfl) rfl rfl ?_
  refine XR_a (op_assign rfl) rfl rfl ?_
  refine XR_nil ?_
  refine X_seq ?_
  refine X_reg ?_
  refine XR_a (op_move rfl) rfl rfl ?_
  refine XR_a (op_eql rfl rfl) rfl rfl ?_
  refine XR_as (.bool true) (congrArg Value.bool (decide_eq_true rfl)) ?_
  refine XR_a (op_move rfl) rfl rfl ?_
  refine XR_a (op_move rfl) rfl rfl ?_
  refine XR_a (op_eql rfl rfl) rfl rfl ?_
  refine XR_as (.bool true) (congrArg Value.bool (decide_eq_true rfl)) ?_
  refine XR_a (op_pick_t rfl rfl) rfl rfl ?_
  refine XR_a (op_move rfl) rfl rfl ?_
  refine XR_a (op_move rfl) rfl rfl ?_
  refine XR_a (op_len rfl rfl rfl) rfl rfl ?_
  refine XR_a (op_eql rfl rfl) rfl rfl ?_
  refine XR_as (.bool true) (congrArg Value.bool (decide_eq_true rfl)) ?_
  refine XR_a (op_pick_t rfl rfl) rfl rfl ?_
  refine XR_a (op_move rfl) rfl rfl ?_
  refine XR_a (op_move rfl) rfl rfl ?_
  refine XR_a (op_index (i := 0) rfl rfl rfl (by omega)) rfl rfl ?_
  first | refine XR_a (op_field0 rfl rfl) rfl rfl ?_ | refine XR_a (op_fieldn rfl rfl) rfl rfl ?_
  obtain ⟨_, _, he6, hc6⟩ := (st6.rdS 1 rfl).2.at_ (by simp)
  cases he6
  refine XR_a (op_ld (hc6 0 (.int .u8 7) rfl) rfl rfl rfl) rfl rfl ?_
  refine XR_a (op_eql rfl rfl) rfl rfl ?_
  refine XR_as (.bool true) (congrArg Value.bool (decide_eq_true rfl)) ?_
  refine XR_a (op_pick_t rfl rfl) rfl rfl ?_
  refine XR_a (op_assign rfl) rfl rfl ?_
  refine XR_nil ?_
  refine X_ret (.cons (.tmp rfl) .nil) ?_
  exact ⟨rfl, Ext.trans hx4 st6.low⟩
end Go.Bn
end

section
set_option linter.unusedVariables false
set_option linter.unusedSimpArgs false
set_option maxHeartbeats 4000000
set_option maxRecDepth 20000
namespace Go.Bn
open Go Proofs
theorem bbits_spec {n c : Nat} {A : Option Addr} {ts : List Tok} {h0 : Heap} (hr : Rd h0 A (ts.flatMap tokV)) (hl : ts.length = n) (hn : n ≤ 17592186044416) (hby : ∀ t ∈ ts, 0 ≤ t.byte ∧ t.byte < 256) :
    Ret Tryz.prog 17 [.slice A n c] h0 fun v h' => v = retVal [nV (if rightL ts then (blockB (ts.map splitY)).length else 0), .bool (decide (rightL ts))] ∧ Ext h0 h' := by
  refine ret_of_X Tryz.func17 rfl rfl fun w0 hw0 => ?_
  simp only [argE, Nat.zero_add, Nat.reduceAdd]
  refine X_seq ?_
  refine X_reg ?_
  refine XR_a (op_assign rfl) rfl rfl ?_
  refine XR_a (op_assign rfl) rfl rfl ?_
  refine XR_nil ?_
  refine X_seq ?_
  refine X_reg ?_
  refine XR_wa (opl_new rfl) rfl rfl rfl ?_
  rintro _ hp ⟨p, rfl, hnew⟩
  have st := ((St.start h0).new hnew).wr0
  refine XR_nil ?_
  refine X_seq ?_
  refine X_seq ?_
  refine X_reg ?_
  refine XR_a (op_move rfl) rfl rfl ?_
  refine XR_wa (opl_call (bput_spec (F := []) st.here (fun h' rs hs => hr.ext (st.low.trans hs.low)) hl hn hby (by simp)) rfl (by kernel_rfl)) rfl rfl rfl ?_
  rintro _ hp2 ⟨rfl, st2⟩
  replace st := st.trans st2
  clear st2
  rw [List.nil_append] at st
  refine XR_a (op_neq rfl rfl) rfl rfl ?_
  by_cases hR : ¬ rightL ts
  · rw [if_neg hR] at st ⊢
    rw [if_neg hR, decide_eq_false hR]
    refine XR_as (.bool true) (congrArg Value.bool (decide_eq_true (by simp))) ?_
    refine XR_nil ?_
    refine X_then rfl ?_
    refine X_seq ?_
    refine X_reg ?_
    refine XR_a (op_assign rfl) rfl rfl ?_
    refine XR_a (op_assign rfl) rfl rfl ?_
    refine XR_nil ?_
    refine X_ret (.cons (.tmp rfl) (.cons (.tmp rfl) .nil)) ?_
    exact ⟨rfl, st.low⟩
  · have hR := Decidable.not_not.1 hR
    rw [if_pos hR] at st ⊢
    rw [if_pos hR, decide_eq_true hR]
    have hbl := blockB_len (split_b30 hR hby)
    rw [List.length_map] at hbl
    have h6 := hR.1
    refine XR_as (.bool false) (congrArg Value.bool (decide_eq_false (by simp))) ?_
    refine XR_nil ?_
    refine X_else rfl ?_
    refine X_skip ?_
    refine X_seq ?_
    refine X_reg ?_
    refine XR_wa (opl_call (wlen_spec st.here (by omega)) rfl (by kernel_rfl)) rfl rfl rfl ?_
    rintro _ _ ⟨rfl, rfl⟩
    refine XR_a (op_assign rfl) rfl rfl ?_
    refine XR_a (op_assign rfl) rfl rfl ?_
    refine XR_nil ?_
    refine X_ret (.cons (.tmp rfl) (.cons (.tmp rfl) .nil)) ?_
    exact ⟨rfl, st.low⟩
theorem bput_nil {n c : Nat} {A : Option Addr} (h0 : Heap) :
    Ret Tryz.prog 16 [.pointer none, .slice A n c] h0 fun v h' => v = nV 1 ∧ h0 = h' := by
  refine ret_of_X Tryz.func16 rfl rfl fun w0 hw0 => ?_
  simp only [argE, Nat.zero_add, Nat.reduceAdd]
  refine X_seq ?_
  refine X_reg ?_
  refine XR_a (op_assign rfl) rfl rfl ?_
  refine XR_nil ?_
  refine X_seq ?_
  refine X_seq ?_
  refine X_reg ?_
  refine XR_a (op_move rfl) rfl rfl ?_
  refine XR_a (op_ptr_nil rfl rfl rfl) rfl rfl ?_
  refine XR_nil ?_
  refine X_then rfl ?_
  refine X_seq ?_
  refine X_reg ?_
  refine XR_a (op_assign rfl) rfl rfl ?_
  refine XR_nil ?_
  refine X_ret (.cons (.tmp rfl) .nil) ?_
  exact ⟨rfl, rfl⟩
theorem btake_nil {most : Int} (h0 : Heap) :
    Ret Tryz.prog 11 [.pointer none, .int .i64 most] h0 fun v h' => v = retVal [.slice none 0 0, nV 1] ∧ h0 = h' := by
  refine ret_of_X Tryz.func11 rfl rfl fun w0 hw0 => ?_
  simp only [argE, Nat.zero_add, Nat.reduceAdd]
  refine X_seq ?_
  refine X_reg ?_
  refine XR_a (op_assign rfl) rfl rfl ?_
  refine XR_a (op_assign rfl) rfl rfl ?_
  refine XR_nil ?_
  refine X_seq ?_
  refine X_seq ?_
  refine X_reg ?_
  refine XR_a (op_move rfl) rfl rfl ?_
  refine XR_a (op_ptr_nil rfl rfl rfl) rfl rfl ?_
  refine XR_nil ?_
  refine X_then rfl ?_
  refine X_seq ?_
  refine X_reg ?_
  refine XR_a (op_assign rfl) rfl rfl ?_
  refine XR_a (op_assign rfl) rfl rfl ?_
  refine XR_nil ?_
  refine X_ret (.cons (.tmp rfl) (.cons (.tmp rfl) .nil)) ?_
  exact ⟨rfl, rfl⟩
end Go.Bn
end

section
set_option linter.unusedVariables false
set_option linter.unusedSimpArgs false
set_option maxHeartbeats 4000000
set_option maxRecDepth 20000
namespace Go.Bn
open Go Proofs
theorem blockPuts_ret {n c : Nat} {A : Option Addr} {ts : List Tok} {h0 : Heap} (hr : Rd h0 A (ts.flatMap tokV)) (hl : ts.length = n) (hby : ∀ t ∈ ts, 0 ≤ t.byte ∧ t.byte < 256) :
    Ret Tryz.prog 4 [.slice A n c] h0 fun v h' => v = .bool true ∧ Ext h0 h' := by
  refine ret_of_X Tryz.func4 rfl rfl fun w0 hw0 => ?_
  simp only [argE, Nat.zero_add, Nat.reduceAdd]
  refine X_seq ?_
  refine X_reg ?_
  refine XR_a (op_assign rfl) rfl rfl ?_
  refine XR_nil ?_
  refine X_seq ?_
  refine X_seq ?_
  refine X_reg ?_
  refine XR_a (op_move rfl) rfl rfl ?_
  refine XR_a (op_len rfl rfl rfl) rfl rfl ?_
  refine XR_a (op_gtr rfl rfl) rfl rfl ?_
  refine XR_nil ?_
  refine X_if rfl (fun h => ?_) (fun h => ?_)
  · refine X_seq ?_
    refine X_reg ?_
    refine XR_wa (opl_call (lives13 _) rfl (by kernel_rfl)) rfl rfl rfl ?_
    rintro _ hp ⟨rfl, hx⟩
    refine XR_a (op_assign rfl) rfl rfl ?_
    refine XR_nil ?_
    refine X_ret (.cons (.tmp rfl) .nil) ?_
    exact ⟨rfl, hx⟩
  · refine X_skip ?_
    refine X_seq ?_
    refine X_reg ?_
    refine XR_wa (opl_new rfl) rfl rfl rfl ?_
    rintro _ hp ⟨p, rfl, hnew⟩
    have st := ((St.start h0).new hnew).wr0
    refine XR_nil ?_
    refine X_seq ?_
    refine X_reg ?_
    refine XR_a (op_move rfl) rfl rfl ?_
    refine XR_wa (opl_call (bput_spec (F := []) st.here (fun h' rs hs => hr.ext (st.low.trans hs.low)) hl (by omega) hby (by simp)) rfl (by kernel_rfl)) rfl rfl rfl ?_
    rintro _ hp2 ⟨rfl, st2⟩
    replace st := st.trans st2
    clear st2
    rw [List.nil_append] at st
    refine XR_a (op_assign rfl) rfl rfl ?_
    refine XR_nil ?_
    refine X_seq ?_
    refine X_reg ?_
    refine XR_a (op_move rfl) rfl rfl ?_
    refine XR_wa (opl_call (bbits_spec (hr.ext st.low) hl (by omega) hby) rfl (by kernel_rfl)) rfl rfl rfl ?_
    rintro _ hp3 ⟨rfl, hx3⟩
    replace st := st.ext hx3
    refine XR_a (op_move rfl) rfl rfl ?_
    refine XR_a (op_extract rfl rfl) rfl rfl ?_
    refine XR_a (op_extract rfl rfl) rfl rfl ?_
    refine XR_a (op_assign rfl) rfl rfl ?_
    refine XR_a (op_assign rfl) rfl rfl ?_
    refine XR_nil ?_
    refine X_seq ?_
    refine X_seq ?_
    refine X_reg ?_
    refine XR_a (op_move rfl) rfl rfl ?_
    refine XR_wa (opl_call (bput_nil _) rfl (by kernel_rfl)) rfl rfl rfl ?_
    rintro _ _ ⟨rfl, rfl⟩
    refine XR_a (op_neq rfl rfl) rfl rfl ?_
    refine XR_as (.bool false) (congrArg Value.bool (decide_eq_false (by decide))) ?_
    refine XR_nil ?_
    refine X_else rfl ?_
    refine X_skip ?_
    refine X_seq ?_
    refine X_seq ?_
    refine X_reg ?_
    refine XR_a (op_move rfl) rfl rfl ?_
    refine XR_wa (opl_call (right13_ref (hr.ext st.low) hl (by omega)) rfl (by kernel_rfl)) rfl rfl rfl ?_
    rintro _ hp5 ⟨rfl, hx5⟩
    replace st := st.ext hx5
    by_cases hR : rightL ts
    · rw [if_pos hR] at st
      rw [if_pos hR, if_pos hR, decide_eq_true hR]
      have hbl := blockB_len (split_b30 hR hby)
      rw [List.length_map] at hbl
      refine XR_a (op_not rfl) rfl rfl ?_
      refine XR_as (.bool false) rfl ?_
      refine XR_nil ?_
      refine X_else rfl ?_
      refine X_skip ?_
      refine X_seq ?_
      refine X_reg ?_
      refine XR_a (op_move rfl) rfl rfl ?_
      refine XR_wa (opl_call (put13_ref (hr.ext st.low) hl hR hby) rfl (by kernel_rfl)) rfl rfl rfl ?_
      rintro v7 hp7 st7
      replace st := st.join st7
      simp only [List.cons_append, List.nil_append] at st
      obtain ⟨A7, n7, c7, rfl, hl7, _, _, hr7⟩ := st.row 0 rfl
      rw [List.length_map, b01_length, Nat.mul_one] at hl7
      subst hl7
      refine XR_a (op_assign rfl) rfl rfl ?_
      refine XR_nil ?_
      refine X_seq ?_
      refine X_draw_in (butAt [(12, .grow), (17, .grow), (20, .grow), (25, .grow)]) [0, 1, 2, 3, 4, 5, 6, 7, 8, 9, 10, 11, 13, 12, 14, 15, 16, 19, 17, 18, 20, 21, 22, 23, 24, 25, 26, 27] (by kernel_rfl) (by kernel_rfl) rfl ?_
      refine XR_a (op_move rfl) rfl rfl ?_
      refine XR_a (op_eql rfl rfl) rfl rfl ?_
      refine XR_as (.bool true) (congrArg Value.bool (decide_eq_true rfl)) ?_
      refine XR_a (op_move rfl) rfl rfl ?_
      refine XR_a (op_move rfl) rfl rfl ?_
      refine XR_a (op_pick_t rfl rfl) rfl rfl ?_
      refine XR_a (op_move rfl) rfl rfl ?_
      refine XR_a (op_move rfl) rfl rfl ?_
      refine XR_a (op_move rfl) rfl rfl ?_
      refine XR_a (op_len rfl rfl rfl) rfl rfl ?_
      refine XR_a (op_eql rfl rfl) rfl rfl ?_
      refine XR_as (.bool true) (congrArg Value.bool (decide_eq_true rfl)) ?_
      refine XR_a (op_pick_t rfl rfl) rfl rfl ?_
      refine XR_a (op_move rfl) rfl rfl ?_
      refine XR_a (op_move rfl) rfl rfl ?_
      refine XR_ga (opl_call (wlen_spec (st.perm (List.Perm.swap _ _ _)).here (by omega)) rfl (by kernel_rfl)) rfl rfl rfl (fun _ _ h => h.2 ▸ Low.refl _ _) ?_
      rintro _ _ ⟨rfl, rfl⟩
      refine XR_a (op_eql rfl rfl) rfl rfl ?_
      refine XR_as (.bool true) (congrArg Value.bool (decide_eq_true rfl)) ?_
      refine XR_a (op_pick_t rfl rfl) rfl rfl ?_
      refine XR_a (op_move rfl) rfl rfl ?_
      refine XR_a (op_move rfl) rfl rfl ?_
      refine XR_ga (opl_call (wbytes_spec (st.perm (List.Perm.swap _ _ _)).here (by omega)) rfl (by kernel_rfl)) rfl rfl rfl (fun _ _ h => h.low) ?_
      rintro v10 hp10 st10
      have hr7 := hr7.ext st10.low
      replace st := st.join st10
      simp only [List.cons_append, List.nil_append] at st
      obtain ⟨A10, n10, c10, rfl, hl10, _, _, hr10⟩ := st.row 0 rfl
      rw [List.length_map, Nat.mul_one] at hl10
      refine XR_a (op_str hr10 rfl hl10 rfl rfl rfl) rfl rfl ?_
      refine XR_ga (opl_call (pack_ref hr7 rfl (by omega)) rfl (by kernel_rfl)) rfl rfl rfl (fun _ _ h => h.low) ?_
      rintro v11 hp11 st11
      replace st := st.join st11
      simp only [List.cons_append, List.nil_append] at st
      obtain ⟨A11, n11, c11, rfl, hl11, _, _, hr11⟩ := st.row 0 rfl
      rw [List.length_map, Nat.mul_one] at hl11
      refine XR_a (op_str hr11 rfl hl11 rfl rfl rfl) rfl rfl ?_
      refine XR_a (op_eqlS rfl rfl) rfl rfl ?_
      refine XR_as (.bool true) (congrArg Value.bool (decide_eq_true rfl)) ?_
      refine XR_a (op_pick_t rfl rfl) rfl rfl ?_
      refine XR_a (op_move rfl) rfl rfl ?_
      refine XR_ga (opl_call (lives13 _) rfl (by kernel_rfl)) rfl rfl rfl (fun _ _ h => h.2) ?_
      rintro _ hp12 ⟨rfl, hx12⟩
      refine XR_a (op_pick_t rfl rfl) rfl rfl ?_
      refine XR_a (op_assign rfl) rfl rfl ?_
      refine XR_nil ?_
      refine X_ret (.cons (.tmp rfl) .nil) ?_
      exact ⟨rfl, Ext.trans st.low hx12⟩
    · rw [if_neg hR] at st
      rw [if_neg hR, if_neg hR, decide_eq_false hR]
      refine XR_a (op_not rfl) rfl rfl ?_
      refine XR_as (.bool true) rfl ?_
      refine XR_nil ?_
      refine X_then rfl ?_
      refine X_seq ?_
      refine X_reg ?_
      refine XR_a (op_move rfl) rfl rfl ?_
      refine XR_a (op_eql rfl rfl) rfl rfl ?_
      refine XR_as (.bool true) (congrArg Value.bool (decide_eq_true rfl)) ?_
      refine XR_a (op_move rfl) rfl rfl ?_
      refine XR_wa (opl_call (wlen_spec st.here (by simp)) rfl (by kernel_rfl)) rfl rfl rfl ?_
      rintro _ _ ⟨rfl, rfl⟩
      refine XR_a (op_eql rfl rfl) rfl rfl ?_
      refine XR_as (.bool true) (congrArg Value.bool (decide_eq_true rfl)) ?_
      refine XR_a (op_pick_t rfl rfl) rfl rfl ?_
      refine XR_a (op_move rfl) rfl rfl ?_
      refine XR_a (op_move rfl) rfl rfl ?_
      refine XR_a (op_eql rfl rfl) rfl rfl ?_
      refine XR_as (.bool true) (congrArg Value.bool (decide_eq_true rfl)) ?_
      refine XR_a (op_pick_t rfl rfl) rfl rfl ?_
      refine XR_a (op_move rfl) rfl rfl ?_
      refine XR_a (op_move rfl) rfl rfl ?_
      refine XR_a (op_not rfl) rfl rfl ?_
      refine XR_as (.bool true) rfl ?_
      refine XR_a (op_pick_t rfl rfl) rfl rfl ?_
      refine XR_a (op_move rfl) rfl rfl ?_
      refine XR_wa (opl_call (lives13 _) rfl (by kernel_rfl)) rfl rfl rfl ?_
      rintro _ hp7 ⟨rfl, hx7⟩
      refine XR_a (op_pick_t rfl rfl) rfl rfl ?_
      refine XR_a (op_assign rfl) rfl rfl ?_
      refine XR_nil ?_
      refine X_ret (.cons (.tmp rfl) .nil) ?_
      exact ⟨rfl, Ext.trans st.low hx7⟩
end Go.Bn
end

section
set_option linter.unusedVariables false
namespace Go.Bn
open Go Go.ChangeShapes Go.WideShapes Go.Deep
theorem okS_toks {hp : Heap} {d : Nat} {v : Value} (h : okS hp d (.sl [.i .u8, .i .i64, .i .i64]) v) :
    ∃ (A : Option Addr) (n c : Nat) (xs : List Tok), v = .slice A n c ∧ n ≤ c ∧ c ≤ maxLen ∧ xs.length = n ∧ Rd hp A (xs.flatMap tokV) ∧ ∀ x ∈ xs, 0 ≤ x.byte ∧ x.byte < 256 := by
  cases d with
  | zero => exact h.elim
  | succ d =>
    obtain ⟨A, n, c, rfl, h1, h2, ll, h3, h4, h5⟩ := h
    have key : ∀ ll : List (List Value), (∀ x ∈ ll, all2 (okS hp d) [.i .u8, .i .i64, .i .i64] x) → ∃ xs : List Tok, xs.length = ll.length ∧ ll.flatten = xs.flatMap tokV ∧ ∀ x ∈ xs, 0 ≤ x.byte ∧ x.byte < 256 := by
      intro ll
      induction ll with
      | nil => intro _; exact ⟨[], rfl, rfl, by simp⟩
      | cons x r ih =>
        intro hx
        obtain ⟨xs, e1, e2, e3⟩ := ih fun y hy => hx y (List.mem_cons_of_mem _ hy)
        obtain ⟨v1, r1, rfl, s1, h1⟩ := all2_cons (hx x List.mem_cons_self)
        obtain ⟨v2, r2, rfl, s2, h2⟩ := all2_cons h1
        obtain ⟨v3, r3, rfl, s3, h3⟩ := all2_cons h2
        obtain rfl := all2_nil h3
        obtain ⟨a, rfl, ha⟩ := okS_i s1
        obtain ⟨b, rfl, _⟩ := okS_i s2
        obtain ⟨c, rfl, _⟩ := okS_i s3
        simp only [inK] at ha
        refine ⟨⟨a, b, c⟩ :: xs, by simp [e1], by rw [List.flatten_cons, e2, List.flatMap_cons], ?_⟩
        intro y hy
        rcases List.mem_cons.1 hy with rfl | hy
        · exact ⟨by simp only; omega, by simp only; omega⟩
        · exact e3 y hy
    obtain ⟨xs, e1, e2, e3⟩ := key ll h5
    exact ⟨A, n, c, xs, rfl, h1, h2, by omega, by rw [← e2]; exact h4, e3⟩
end Go.Bn
end
