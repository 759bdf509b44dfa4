/- Packed texts of a claim: what its theorem uses, joined. -/
import Derived.Test.YtoodeecmplpndaaPkS7x14
import Derived.Test.YtoodeecmplpndaaPkS7x16
section
set_option linter.unusedVariables false
set_option linter.unusedSimpArgs false
set_option maxHeartbeats 4000000
set_option maxRecDepth 20000
namespace Go.Bn
open Go Proofs
theorem St.flatAt {α : Type} (f : α → List Value) (s : Nat) (hf : ∀ x, (f x).length = s) (hs : 0 < s) {B T g n c i : Nat} {l : List α} {x : α} {rs : List Res} {hb h0 : Heap} (st : St B hb h0 rs) (j : Nat) (hj : rs[j]? = some (Bn.row T s (.slice (some ⟨g, 0, none⟩) n c) (l.flatMap f))) (h : l[i]? = some x) :
  ∀ j u, (f x)[j]? = some u → cellH h0 ⟨g, 0 + i * s + j, none⟩ = some u := by
 intro q u hu
 obtain ⟨hi, he⟩ := List.getElem?_eq_some_iff.1 h
 have hrd := (st.rdS j hj).2
 obtain ⟨b, o, he2, hc⟩ := Rd.flat f s hrd hf hs (by omega)
 cases he2
 exact hc i hi q u (by rw [he]; exact hu)
theorem flat_put {α : Type} (f : α → List Value) (s : Nat) (hf : ∀ x, (f x).length = s) (A C : List α) (x y : α) {o : Nat} (ho : o = A.length * s) :
  ((A ++ x :: C).flatMap f).take o ++ f y ++ ((A ++ x :: C).flatMap f).drop (o + (f y).length) = (A ++ y :: C).flatMap f := by
 have hA := flat_length f s hf A
 subst ho
 rw [← hA]
 simp only [List.flatMap_append, List.flatMap_cons]
 rw [List.take_left, List.append_assoc, List.append_cancel_left_eq, List.append_cancel_left_eq, ← List.drop_drop, List.drop_left, hf y, ← hf x, List.drop_left]
def pC (ws : List Nat) (s : Nat) : List Value := [nV s, nV (wkey ws s)]
theorem one_pC (ws : List Nat) (s : Nat) : ∀ u ∈ pC ws s, Value.one u = true := by intro u hu; simp only [pC, List.mem_cons, List.not_mem_nil, or_false] at hu; rcases hu with rfl | rfl <;> rfl
theorem items_ref {n c : Nat} {A : Option Addr} {ws : List Nat} {h0 : Heap} (hr : Rd h0 A (ws.map nV)) (hl : ws.length = n) (hn : n ≤ 1048576) :
  Ret Try.prog 69 [.slice A n c] h0 fun v h' => St h0.size h0 h' [row 131 2 v ((syms ws).flatMap (pC ws))] := by
 refine ret_of_X Try.func69 rfl rfl fun w0 hw0 => ?_
 simp only [argE, Nat.zero_add, Nat.reduceAdd]
 refine X_seq (X_reg (XA rfl rfl rfl (XR_nil (X_seq (X_reg (XA rfl rfl rfl (XR_nil (X_seq (X_seq ?_)))))))))
 refine X_reg (XA rfl rfl rfl (XR_nil (X_block ?_)))
 have st := (St.start h0).nilrow 131 2
 refine X_loop (fun s => n - s.1) (fun s => [(0, .slice A n c), (3, s.2.1), (4, nV s.1)])
  (fun (s : Nat × Value × List Nat) hp => St h0.size h0 hp [row 131 2 s.2.1 (s.2.2.flatMap (pC ws))] ∧ s.1 ≤ n ∧ s.2.2.Perm (fltTo ws s.1) ∧ RkS (wkey ws) s.2.2)
  (0, _, []) (.cons rfl (.cons rfl (.cons rfl (.nil _)))) ⟨st, by simp only; omega, List.Perm.refl _, List.Pairwise.nil⟩ ?_
 clear st
 rintro ⟨i, v, S⟩ hp ⟨st, hi, hS, hSs⟩
 simp only at st hi hS hSs ⊢
 refine X_seq (X_seq (X_reg (XV rfl rfl rfl (XV rfl rfl rfl ?_))))
 refine XR_a (op_len rfl rfl rfl) rfl rfl ?_
 refine XR_a (op_lss rfl rfl) rfl rfl ?_
 refine XR_nil ?_
 refine X_if rfl (fun h => ?_) (fun h => ?_)
 ·have hlt : i < ws.length := by omega
  obtain ⟨g0, o0, rfl, hc⟩ := hr.at_ (by rw [List.length_map]; omega)
  have hci := fun {hp : Heap} (hx : Ext h0 hp) => cellH_ext (a := ⟨g0, o0 + i, none⟩) hx (hc i (nV (wkey ws i)) (by unfold wkey; simp [List.getD, hlt]))
  have hfs := fltTo_succ ws i
  have hfl := fltTo_len ws i
  have hSl := hS.length_eq
  refine X_skip (X_seq (X_block (X_seq (X_seq (X_reg (XV rfl rfl rfl (XV rfl rfl rfl ?_)))))))
  first | refine XR_a (op_index1 rfl rfl rfl (by omega)) rfl rfl ?_ | refine XR_a (op_index rfl rfl rfl (by omega)) rfl rfl ?_
  refine XR_a (op_ld (hci st.low) rfl rfl rfl) rfl rfl ?_
  refine XR_a (op_eql rfl rfl) rfl rfl ?_
  refine XR_nil ?_
  refine X_if rfl (fun h => ?_) (fun h => ?_)
  ·refine X_exit rfl (X_reg (XV rfl rfl rfl ?_))
   first | refine XR_a (op_addN (n := 1) rfl rfl (by simp only [inK]; omega)) rfl rfl ?_ | refine XR_a (op_addI rfl rfl (by simp only [inK]; omega)) rfl rfl ?_ | refine XR_a (op_add rfl rfl) rfl rfl ?_
   refine XA rfl rfl rfl (XR_nil ?_)
   rw [if_neg (by omega), List.append_nil] at hfs
   exact X_again (i + 1, v, S) (.cons rfl (.cons rfl (.cons rfl (.nil _)))) ⟨st, by simp only; omega, by rw [hfs]; exact hS, hSs⟩ (by simp only; omega)
  ·refine X_skip (X_seq (X_reg (XV rfl rfl rfl (XV rfl rfl rfl (XV rfl rfl rfl (XV rfl rfl rfl ?_))))))
   first | refine XR_a (op_index1 rfl rfl rfl (by omega)) rfl rfl ?_ | refine XR_a (op_index rfl rfl rfl (by omega)) rfl rfl ?_
   refine XR_a (op_ld (hci st.low) rfl rfl rfl) rfl rfl ?_
   refine XR_a (op_build (ps := [(0, nV i), (1, nV (wkey ws i))]) (cs := (pC ws i).toArray) rfl rfl) rfl rfl ?_
   refine XR_wa (opl_varA (us := pC ws i) rfl rfl rfl rfl (by kernel_rfl)) rfl rfl rfl ?_
   rintro _ hp ⟨A9, rfl, hx9, hrd⟩
   replace st := st.ext hx9
   refine XR_wa (opl_append st 0 rfl (hrd) (rfl) (one_pC ws i) (by rw [flat_length _ 2 (fun _ => rfl)]; simp [pC]; omega) rfl rfl rfl rfl rfl rfl rfl) rfl rfl rfl fun v hp st => ?_
   simp only [List.set_cons_zero, List.set_cons_succ] at st
   have e2 : S.flatMap (pC ws) ++ pC ws i = (S ++ [i]).flatMap (pC ws) := by rw [List.flatMap_append]; simp
   rw [e2] at st
   obtain ⟨g, n9, c9, rfl, hl9, _⟩ := st.row0 0 rfl (by rw [flat_length _ 2 (fun _ => rfl), List.length_append, List.length_singleton]; omega)
   rw [flat_length _ 2 (fun _ => rfl)] at hl9
   simp only [List.length_append, List.length_cons, List.length_nil] at hl9
   refine XA rfl rfl rfl (XR_nil (X_seq (X_reg (XV rfl rfl rfl ?_))))
   refine XR_a (op_len rfl rfl rfl) rfl rfl ?_
   first | refine XR_a (op_subN (n := 1) rfl rfl (by omega) (by simp only [inK]; omega)) rfl rfl ?_ | refine XR_a (op_subI rfl rfl (by simp only [inK]; omega)) rfl rfl ?_ | refine XR_a (op_sub rfl rfl) rfl rfl ?_
   refine XA rfl rfl rfl (XR_nil (X_block ?_))
   rw [if_pos (by omega)] at hfs
   have hpre : PreM (wkey ws) S [i] := by
    refine ⟨hSs, by simp, fun u hu w hw _ => ?_⟩
    obtain rfl : w = i := by simpa using hw
    rw [hS.mem_iff] at hu
    exact List.mem_range.1 (List.mem_filter.1 hu).1
   refine X_loop (fun p => p) (fun p => [(0, .slice (some ⟨g0, o0, none⟩) n c), (3, .slice (some ⟨g, 0, none⟩) n9 c9), (4, nV i), (5, nV p)])
    (fun (p : Nat) hp => p ≤ S.length ∧ (S.length ≤ p ∨ wkey ws i < wkey ws (S.getD p 0)) ∧ St h0.size h0 hp [row 131 2 (.slice (some ⟨g, 0, none⟩) n9 c9) ((S.take p ++ i :: S.drop p).flatMap (pC ws))])
    S.length (.cons rfl (.cons rfl (.cons rfl (.cons (by rw [show n9 - 1 = S.length by omega]; rfl) (.nil _))))) ⟨Nat.le_refl _, .inl (Nat.le_refl _), by rw [List.take_of_length_le (Nat.le_refl _), List.drop_of_length_le (Nat.le_refl _)]; exact st⟩ ?_
   clear st
   rintro p hp ⟨hpS, hpk, st⟩
   have hfin : (p = 0 ∨ wkey ws (S.getD (p - 1) 0) ≤ wkey ws i) → (S.take p ++ i :: S.drop p).Perm (fltTo ws (i + 1)) ∧ RkS (wkey ws) (S.take p ++ i :: S.drop p) := fun h1 => by
    obtain ⟨m1, m2⟩ := mrg_right hpre hpS h1 hpk
    exact ⟨m1.trans (by rw [hfs]; exact hS.append_right _), m2⟩
   refine X_seq (X_seq ?_)
   refine X_draw byKind (by kernel_rfl) (by kernel_rfl) ?_
   refine XV rfl rfl rfl ?_
   refine XR_a (op_gtr rfl rfl) rfl rfl ?_
   refine XV rfl rfl rfl ?_
   refine XR_if 32 rfl (fun h => ?_) (fun h => ?_)
   ·have hp1 : p - 1 < S.length := by omega
    have e1 : S.take p ++ i :: S.drop p = S.take (p - 1) ++ S.getD (p - 1) 0 :: ([] ++ i :: S.drop p) := by
     have := take_snoc hp1
     rw [show p - 1 + 1 = p by omega] at this
     rw [this]; simp
    have e3 : S.take (p - 1) ++ i :: S.drop (p - 1) = S.take (p - 1) ++ i :: ([] ++ S.getD (p - 1) 0 :: S.drop p) := by
     have := drop_cons hp1
     rw [show p - 1 + 1 = p by omega] at this
     rw [this]; simp
    have hia : p - 1 = (S.take (p - 1)).length := by rw [List.length_take]; omega
    have hib : p = (S.take (p - 1)).length + 1 + ([] : List Nat).length := by rw [List.length_take, List.length_nil]; omega
    rw [e1] at st
    have hcp := St.flatAt (pC ws) 2 (fun _ => rfl) (by omega) st 0 rfl (get_mid2 (S.take (p - 1)) [] (S.drop p) (S.getD (p - 1) 0) i hib)
    have hcq := St.flatAt (pC ws) 2 (fun _ => rfl) (by omega) st 0 rfl (get_mid (S.take (p - 1)) ([] ++ i :: S.drop p) (S.getD (p - 1) 0) hia)
    refine XV rfl rfl rfl (XV rfl rfl rfl ?_)
    refine XR_a (op_index (i := p) rfl rfl rfl (by omega)) rfl rfl ?_
    first | refine XR_a (op_field0 rfl rfl) rfl rfl ?_ | refine XR_a (op_fieldn rfl rfl) rfl rfl ?_
    refine XR_a (op_ld (hcp 1 _ rfl) rfl rfl rfl) rfl rfl ?_
    refine XV rfl rfl rfl (XV rfl rfl rfl ?_)
    first | refine XR_a (op_subN (n := 1) rfl rfl (by omega) (by simp only [inK]; omega)) rfl rfl ?_ | refine XR_a (op_subI rfl rfl (by simp only [inK]; omega)) rfl rfl ?_ | refine XR_a (op_sub rfl rfl) rfl rfl ?_
    refine XR_a (op_index (i := p - 1) rfl rfl rfl (by omega)) rfl rfl ?_
    first | refine XR_a (op_field0 rfl rfl) rfl rfl ?_ | refine XR_a (op_fieldn rfl rfl) rfl rfl ?_
    refine XR_a (op_ld (hcq 1 _ rfl) rfl rfl rfl) rfl rfl ?_
    refine XR_a (op_lss rfl rfl) rfl rfl ?_
    refine XR_a (op_pick_t rfl rfl) rfl rfl (XR_nil ?_)
    refine X_if rfl (fun h => ?_) (fun h => ?_)
    ·refine X_skip (X_seq (X_block (X_seq (X_reg (XV rfl rfl rfl (XV rfl rfl rfl ?_))))))
     refine XR_a (op_index (i := p) rfl rfl rfl (by omega)) rfl rfl ?_
     refine XR_a (op_ldA (vs := pC ws i) (fun j u hu => hcp j u hu) rfl rfl rfl rfl) rfl rfl ?_
     refine XR_wa (opl_new rfl) rfl rfl rfl ?_
     rintro _ hp ⟨p6, rfl, hnew⟩
     replace st := st.new hnew
     refine XR_wn (opl_store_whole (us := pC ws i) st 0 rfl rfl rfl rfl rfl (one_pC ws i) rfl) rfl rfl fun _ hp st => ?_
     simp only [List.set_cons_zero] at st
     have hcq2 := St.flatAt (pC ws) 2 (fun _ => rfl) (by omega) st 1 rfl (get_mid (S.take (p - 1)) ([] ++ i :: S.drop p) (S.getD (p - 1) 0) hia)
     refine XR_nil (X_seq (X_reg (XV rfl rfl rfl (XV rfl rfl rfl (XV rfl rfl rfl (XV rfl rfl rfl ?_))))))
     first | refine XR_a (op_subN (n := 1) rfl rfl (by omega) (by simp only [inK]; omega)) rfl rfl ?_ | refine XR_a (op_subI rfl rfl (by simp only [inK]; omega)) rfl rfl ?_ | refine XR_a (op_sub rfl rfl) rfl rfl ?_
     refine XR_a (op_index (i := p - 1) rfl rfl rfl (by omega)) rfl rfl ?_
     refine XR_a (op_ldA (vs := pC ws (S.getD (p - 1) 0)) (fun j u hu => hcq2 j u hu) rfl rfl rfl rfl) rfl rfl ?_
     refine XR_a (op_index (i := p) rfl rfl rfl (by omega)) rfl rfl ?_
     refine XR_wn (opl_store_rows (us := pC ws (S.getD (p - 1) 0)) (o := 0 + p * 2) st 1 rfl rfl rfl rfl rfl (one_pC ws _) (by rw [flat_length _ 2 (fun _ => rfl)]; simp [pC]; omega)) rfl rfl fun _ hp st => ?_
     simp only [List.set_cons_zero, List.set_cons_succ] at st
     have e5 := flat_put (pC ws) 2 (fun _ => rfl) (S.take (p - 1) ++ [S.getD (p - 1) 0]) (S.drop p) i (S.getD (p - 1) 0) (o := 0 + p * 2) (by simp only [List.length_append, List.length_cons, List.length_nil]; omega)
     rw [show S.take (p - 1) ++ S.getD (p - 1) 0 :: ([] ++ i :: S.drop p) = (S.take (p - 1) ++ [S.getD (p - 1) 0]) ++ i :: S.drop p by simp, e5] at st
     refine XR_nil (X_reg (XV rfl rfl rfl (XV rfl rfl rfl ?_)))
     first | refine XR_a (op_subN (n := 1) rfl rfl (by omega) (by simp only [inK]; omega)) rfl rfl ?_ | refine XR_a (op_subI rfl rfl (by simp only [inK]; omega)) rfl rfl ?_ | refine XR_a (op_sub rfl rfl) rfl rfl ?_
     refine XR_a (op_ldA (vs := pC ws i) (st.cells 0 rfl) rfl rfl rfl rfl) rfl rfl ?_
     refine XR_a (op_index (i := p - 1) rfl rfl rfl (by omega)) rfl rfl ?_
     refine XR_wn (opl_store_rows (us := pC ws i) (o := 0 + (p - 1) * 2) st 1 rfl rfl rfl rfl rfl (one_pC ws _) (by rw [flat_length _ 2 (fun _ => rfl)]; simp [pC]; omega)) rfl rfl fun _ hp st => ?_
     simp only [List.set_cons_zero, List.set_cons_succ] at st
     have e6 := flat_put (pC ws) 2 (fun _ => rfl) (S.take (p - 1)) (S.getD (p - 1) 0 :: S.drop p) (S.getD (p - 1) 0) i (o := 0 + (p - 1) * 2) (by omega)
     rw [show (S.take (p - 1) ++ [S.getD (p - 1) 0]) ++ S.getD (p - 1) 0 :: S.drop p = S.take (p - 1) ++ S.getD (p - 1) 0 :: (S.getD (p - 1) 0 :: S.drop p) by simp, e6, show S.take (p - 1) ++ i :: (S.getD (p - 1) 0 :: S.drop p) = S.take (p - 1) ++ i :: ([] ++ S.getD (p - 1) 0 :: S.drop p) by simp, ← e3] at st
     refine XR_nil (X_blk (X_reg (XV rfl rfl rfl ?_)))
     first | refine XR_a (op_subN (n := 1) rfl rfl (by omega) (by simp only [inK]; omega)) rfl rfl ?_ | refine XR_a (op_subI rfl rfl (by simp only [inK]; omega)) rfl rfl ?_ | refine XR_a (op_sub rfl rfl) rfl rfl ?_
     refine XA rfl rfl rfl (XR_nil ?_)
     exact X_again (p - 1) (.cons rfl (.cons rfl (.cons rfl (.cons rfl (.nil _))))) ⟨by omega, .inr (by omega), st.tail⟩ (by omega)
    ·refine X_exit rfl (X_blk (X_reg (XV rfl rfl rfl ?_)))
     first | refine XR_a (op_addN (n := 1) rfl rfl (by simp only [inK]; omega)) rfl rfl ?_ | refine XR_a (op_addI rfl rfl (by simp only [inK]; omega)) rfl rfl ?_ | refine XR_a (op_add rfl rfl) rfl rfl ?_
     refine XA rfl rfl rfl (XR_nil ?_)
     rw [← e1] at st
     exact X_again (i + 1, _, S.take p ++ i :: S.drop p) (.cons rfl (.cons rfl (.cons rfl (.nil _)))) ⟨st, by simp only; omega, (hfin (.inr (by omega))).1, (hfin (.inr (by omega))).2⟩ (by simp only; omega)
   ·refine XR_no rfl rfl (XR_no rfl rfl (XR_no rfl rfl (XR_no rfl rfl (XR_no rfl rfl (XR_no rfl rfl (XR_no rfl rfl (XR_no rfl rfl (XR_no rfl rfl (XR_no rfl rfl ?_)))))))))
    refine XR_no rfl rfl (XR_no rfl rfl (XR_a (op_pick_f rfl rfl) rfl rfl (XR_nil (X_else rfl (X_exit rfl (X_blk (X_reg (XV rfl rfl rfl ?_))))))))
    first | refine XR_a (op_addN (n := 1) rfl rfl (by simp only [inK]; omega)) rfl rfl ?_ | refine XR_a (op_addI rfl rfl (by simp only [inK]; omega)) rfl rfl ?_ | refine XR_a (op_add rfl rfl) rfl rfl ?_
    refine XA rfl rfl rfl (XR_nil ?_)
    exact X_again (i + 1, _, S.take p ++ i :: S.drop p) (.cons rfl (.cons rfl (.cons rfl (.nil _)))) ⟨st, by simp only; omega, (hfin (.inl (by omega))).1, (hfin (.inl (by omega))).2⟩ (by simp only; omega)
 ·refine X_exit rfl (X_seq (X_reg (XV rfl rfl rfl (XA rfl rfl rfl (XR_nil ?_)))))
  refine X_ret (.cons (.tmp rfl) .nil) ?_
  obtain rfl : i = n := by omega
  have hfe : fltTo ws i = flt ws := by unfold fltTo flt; rw [hl]
  rw [hfe] at hS
  rw [← syms_eq hS hSs]
  exact st
end Go.Bn
namespace Go.Bn
open Go Proofs
def eV (x : PE × Value) : List Value := [nV x.1.1, x.2]
def okH (h : Heap) (x : PE × Value) : Prop := ∃ A n c, x.2 = .slice A n c ∧ x.1.2.length = n ∧ Rd h A (x.1.2.map nV)
theorem okH.ext {h h' : Heap} {x : PE × Value} (h1 : okH h x) (hx : Ext h h') : okH h' x := by
 obtain ⟨A, n, c, e1, e2, e3⟩ := h1
 exact ⟨A, n, c, e1, e2, e3.ext hx⟩
theorem row_ref {n c q e : Nat} {A C : Option Addr} {ws sy : List Nat} {pr : List (PE × Value)} {h0 : Heap} (hr : Rd h0 A (sy.flatMap (pC ws))) (hm : sy.length = n) (hp : Rd h0 C (pr.flatMap eV)) (hq : pr.length = q) (hok : ∀ x ∈ pr, okH h0 x)
  (hn : n ≤ 65536) (hqm : q ≤ 131072) (hpw : ∀ x ∈ pr, x.1.1 ≤ 1152921504606846976) (hpl : ∀ x ∈ pr, x.1.2.length ≤ 1073741824) :
  Ret Try.prog 70 [.slice A n c, .slice C q e] h0 fun v h' => ∃ (rs : List (PE × Value)) (L : List (Value × List Value)), rs.map (·.1) = (itemsE (sy.map (wkey ws))).merge (pairsE (pr.map (·.1))) lePE ∧ (∀ x ∈ rs, (x.2, x.1.2.map nV) ∈ L) ∧
   St h0.size h0 h' [rowsR 3 1 L, row 135 2 v (rs.flatMap eV)] := by
 have hIl : (itemsE (sy.map (wkey ws))).length = n := by rw [itemsE_length, List.length_map, hm]
 have hPl := pairsE_length (pr.map (·.1))
 rw [List.length_map, hq] at hPl
 have hIi : ∀ i (hi : i < n), (itemsE (sy.map (wkey ws)))[i]'(by omega) = (wkey ws (sy[i]'(by omega)), [i]) := fun i hi => by
  rw [itemsE_get (by rw [List.length_map]; omega), List.getElem_map]
 have hPi : ∀ k (h : k < (pairsE (pr.map (·.1))).length) (h1 : 2 * k + 1 < pr.length), (pairsE (pr.map (·.1)))[k] = ((pr[2 * k]'(by omega)).1.1 + pr[2 * k + 1].1.1, (pr[2 * k]'(by omega)).1.2 ++ pr[2 * k + 1].1.2) := fun k h h1 => by
  rw [pairsE_at k _ h (by rw [List.length_map]; exact h1)]
  simp only [List.getElem_map]
 obtain ⟨I, hI⟩ : ∃ I, itemsE (sy.map (wkey ws)) = I := ⟨_, rfl⟩
 obtain ⟨P, hP⟩ : ∃ P, pairsE (pr.map (·.1)) = P := ⟨_, rfl⟩
 simp only [hI, hP] at hIl hPl hIi hPi ⊢
 have hget : ∀ i (hi : i < n), ∃ g o, A = some ⟨g, o, none⟩ ∧ ∀ {hp : Heap}, Ext h0 hp → cellH hp ⟨g, o + i * 2 + 1, none⟩ = some (nV (wkey ws (sy[i]'(by omega)))) := fun i hi => by
  obtain ⟨g, o, rfl, hc⟩ := Rd.flat (pC ws) 2 hr (fun _ => rfl) (by omega) (by omega)
  exact ⟨g, o, rfl, fun hx => cellH_ext (a := ⟨g, o + i * 2 + 1, none⟩) hx (hc i (by omega) 1 _ rfl)⟩
 refine ret_of_X Try.func70 rfl rfl fun w0 hw0 => ?_
 simp only [argE, Nat.zero_add, Nat.reduceAdd]
 refine X_seq (X_reg (XA rfl rfl rfl (XR_nil (X_seq (X_reg (XA rfl rfl rfl (XR_nil (X_seq (X_reg ?_)))))))))
 refine XA rfl rfl rfl (XR_nil (X_seq (X_seq (X_reg (XA rfl rfl rfl (XR_nil (X_block ?_)))))))
 have st := St.perm ((St.start h0).nilrow 135 2) (List.Perm.refl _)
 refine X_loop (fun s => q - s.2.1) (fun s => [(0, .slice A n c), (1, .slice C q e), (5, s.2.2.1), (6, nV s.1), (7, nV (2 * s.2.1))])
  (fun (s : Nat × Nat × Value × List (PE × Value) × List (Value × List Value)) hp => St h0.size h0 hp [rowsR 3 1 s.2.2.2.2, row 135 2 s.2.2.1 (s.2.2.2.1.flatMap eV)] ∧ s.1 ≤ n ∧ s.2.1 ≤ q / 2 ∧ s.2.2.2.1.length = s.1 + s.2.1 ∧ (∀ x ∈ s.2.2.2.1, (x.2, x.1.2.map nV) ∈ s.2.2.2.2) ∧
   s.2.2.2.1.map (·.1) ++ (I.drop s.1).merge (P.drop s.2.1) lePE = I.merge P lePE)
  (0, 0, _, [], []) (.cons rfl (.cons rfl (.cons rfl (.cons rfl (.cons rfl (.nil _)))))) ⟨St.emp.2 st, by simp only; omega, by simp only; omega, rfl, by simp, by simp⟩ ?_
 clear st
 rintro ⟨i, k, v, rs, L⟩ hp2 ⟨st, hi, hk, hout, hL, hmg⟩
 simp only at st hi hk hout hL hmg ⊢
 refine X_seq (X_seq (X_reg (XV rfl rfl rfl (XV rfl rfl rfl ?_))))
 refine XR_a (op_len rfl rfl rfl) rfl rfl ?_
 first | refine XR_a (op_subN (n := 1) rfl rfl (by omega) (by simp only [inK]; omega)) rfl rfl ?_ | refine XR_a (op_subI rfl rfl (by simp only [inK]; omega)) rfl rfl ?_ | refine XR_a (op_sub rfl rfl) rfl rfl ?_
 refine XR_a (op_lss rfl rfl) rfl rfl ?_
 refine XR_nil ?_
 refine X_if rfl (fun h => ?_) (fun h => ?_)
 ·refine X_skip (X_seq (X_block (X_seq ?_)))
  have hk1 : 2 * k < pr.length := by omega
  have hk2 : 2 * k + 1 < pr.length := by omega
  obtain ⟨gC, oC, rfl, hcC⟩ := Rd.flat eV 2 hp (fun _ => rfl) (by omega) (by omega)
  have hw1 := hpw _ (List.getElem_mem hk1)
  have hw2 := hpw _ (List.getElem_mem hk2)
  have hkP : k < P.length := by omega
  have hPe := hPi k hkP hk2
  have hl1 := fun {hp : Heap} (hx : Ext h0 hp) => cellH_ext (a := ⟨gC, oC + 2 * k * 2 + 0, none⟩) hx (hcC (2 * k) hk1 0 (nV pr[2 * k].1.1) rfl)
  have hl2 := fun {hp : Heap} (hx : Ext h0 hp) => cellH_ext (a := ⟨gC, oC + (2 * k + 1) * 2 + 0, none⟩) hx (hcC (2 * k + 1) hk2 0 (nV pr[2 * k + 1].1.1) rfl)
  have hl3 := fun {hp : Heap} (hx : Ext h0 hp) => cellH_ext (a := ⟨gC, oC + 2 * k * 2 + 1, none⟩) hx (hcC (2 * k) hk1 1 pr[2 * k].2 rfl)
  have hl4 := fun {hp : Heap} (hx : Ext h0 hp) => cellH_ext (a := ⟨gC, oC + (2 * k + 1) * 2 + 1, none⟩) hx (hcC (2 * k + 1) hk2 1 pr[2 * k + 1].2 rfl)
  obtain ⟨A1, m1, c1, ev1, el1, er1⟩ := hok _ (List.getElem_mem hk1)
  obtain ⟨A2, m2, c2, ev2, el2, er2⟩ := hok _ (List.getElem_mem hk2)
  have hb1 := hpl _ (List.getElem_mem hk1)
  have hb2 := hpl _ (List.getElem_mem hk2)
  rw [ev1] at hl3
  rw [ev2] at hl4
  obtain ⟨⟨w1, H1⟩, hx1⟩ : ∃ x, pr[2 * k].1 = x := ⟨_, rfl⟩
  obtain ⟨⟨w2, H2⟩, hx2⟩ : ∃ x, pr[2 * k + 1].1 = x := ⟨_, rfl⟩
  simp only [hx1, hx2] at hw1 hw2 hl1 hl2 hPe el1 er1 el2 er2 hb1 hb2
  refine X_draw byKind (by kernel_rfl) (by kernel_rfl) ?_
  refine XV rfl rfl rfl (XV rfl rfl rfl ?_)
  refine XR_a (op_index (i := 2 * k) rfl rfl rfl (by omega)) rfl rfl ?_
  first | refine XR_a (op_field0 rfl rfl) rfl rfl ?_ | refine XR_a (op_fieldn rfl rfl) rfl rfl ?_
  refine XR_a (op_ld (hl1 st.low) rfl rfl rfl) rfl rfl ?_
  refine XV rfl rfl rfl (XV rfl rfl rfl ?_)
  first | refine XR_a (op_addN (n := 1) rfl rfl (by simp only [inK]; omega)) rfl rfl ?_ | refine XR_a (op_addI rfl rfl (by simp only [inK]; omega)) rfl rfl ?_ | refine XR_a (op_add rfl rfl) rfl rfl ?_
  refine XR_a (op_index (i := 2 * k + 1) rfl rfl rfl (by omega)) rfl rfl ?_
  first | refine XR_a (op_field0 rfl rfl) rfl rfl ?_ | refine XR_a (op_fieldn rfl rfl) rfl rfl ?_
  refine XR_a (op_ld (hl2 st.low) rfl rfl rfl) rfl rfl ?_
  first | refine XR_a (op_addN rfl rfl (by simp only [inK]; omega)) rfl rfl ?_ | refine XR_a (op_addI rfl rfl (by simp only [inK]; omega)) rfl rfl ?_ | refine XR_a (op_add rfl rfl) rfl rfl ?_
  refine XA rfl rfl rfl (XR_nil (X_seq (X_block ?_)))
  refine X_loop (fun s => n - s.1) (fun s => [(0, .slice A n c), (1, .slice (some ⟨gC, oC, none⟩) q e), (5, s.2.1), (6, nV s.1), (7, nV (2 * k)), (8, nV (w1 + w2))])
   (fun (s : Nat × Value × List (PE × Value) × List (Value × List Value)) hp => St h0.size h0 hp [rowsR 3 1 s.2.2.2, row 135 2 s.2.1 (s.2.2.1.flatMap eV)] ∧ s.1 ≤ n ∧ s.2.2.1.length = s.1 + k ∧ (∀ x ∈ s.2.2.1, (x.2, x.1.2.map nV) ∈ s.2.2.2) ∧
    s.2.2.1.map (·.1) ++ (I.drop s.1).merge (P.drop k) lePE = I.merge P lePE)
   (i, v, rs, L) (.cons rfl (.cons rfl (.cons rfl (.cons rfl (.cons rfl (.cons rfl (.nil _))))))) ⟨st, hi, hout, hL, hmg⟩ ?_
  clear st hi hout hL hmg
  rintro ⟨i, v, rs, L⟩ hp2 ⟨st, hi, hout, hL, hmg⟩
  simp only at st hi hout hL hmg ⊢
  refine X_seq (X_seq (X_reg (XV rfl rfl rfl (XV rfl rfl rfl ?_))))
  refine XR_a (op_len rfl rfl rfl) rfl rfl ?_
  refine XR_a (op_lss rfl rfl) rfl rfl ?_
  refine XV rfl rfl rfl ?_
  refine XR_if 32 rfl (fun h => ?_) (fun h => ?_)
  ·have hin : i < n := by omega
   obtain ⟨gA, oA, rfl, hcell⟩ := hget i hin
   have hIe := hIi i hin
   refine XV rfl rfl rfl (XV rfl rfl rfl ?_)
   first | refine XR_a (op_index1 rfl rfl rfl (by omega)) rfl rfl ?_ | refine XR_a (op_index rfl rfl rfl (by omega)) rfl rfl ?_
   first | refine XR_a (op_field0 rfl rfl) rfl rfl ?_ | refine XR_a (op_fieldn rfl rfl) rfl rfl ?_
   refine XR_a (op_ld (hcell st.low) rfl rfl rfl) rfl rfl ?_
   refine XV rfl rfl rfl ?_
   refine XR_a (op_leq rfl rfl) rfl rfl ?_
   refine XR_a (op_pick_t rfl rfl) rfl rfl (XR_nil ?_)
   refine X_if rfl (fun h => ?_) (fun h => ?_)
   ·refine X_skip (X_block (X_seq (X_reg (XV rfl rfl rfl (XV rfl rfl rfl (XV rfl rfl rfl ?_))))))
    first | refine XR_a (op_index1 rfl rfl rfl (by omega)) rfl rfl ?_ | refine XR_a (op_index rfl rfl rfl (by omega)) rfl rfl ?_
    first | refine XR_a (op_field0 rfl rfl) rfl rfl ?_ | refine XR_a (op_fieldn rfl rfl) rfl rfl ?_
    refine XR_a (op_ld (hcell st.low) rfl rfl rfl) rfl rfl ?_
    refine XV rfl rfl rfl ?_
    refine XR_wa (opl_lit1 rfl rfl rfl) rfl rfl rfl ?_
    rintro v9 hp hnew
    replace st := st.new hnew
    obtain ⟨A9, n9, c9, rfl, _⟩ := st.row 0 rfl
    refine XR_a (op_build (ps := [(0, nV (wkey ws sy[i])), (1, .slice A9 n9 c9)]) (cs := (eV ((wkey ws sy[i], [i]), .slice A9 n9 c9)).toArray) rfl rfl) rfl rfl ?_
    refine XR_wa (opl_varA (us := eV ((wkey ws sy[i], [i]), .slice A9 n9 c9)) rfl rfl rfl rfl (by kernel_rfl)) rfl rfl rfl ?_
    rintro _ hp ⟨A8, rfl, hx8, hrd⟩
    replace st := st.ext hx8
    refine XR_wa (opl_append st 2 rfl (hrd) (rfl) (by intro u hu; simp only [eV, List.mem_cons, List.not_mem_nil, or_false] at hu; rcases hu with rfl | rfl <;> rfl) (by rw [flat_length _ 2 (fun _ => rfl)]; simp [eV]; omega) rfl rfl rfl rfl rfl rfl rfl) rfl rfl rfl fun v hp st => ?_
    simp only [List.set_cons_zero, List.set_cons_succ] at st
    have e2 : rs.flatMap eV ++ eV ((wkey ws sy[i], [i]), .slice A9 n9 c9) = (rs ++ [((wkey ws sy[i], [i]), Value.slice A9 n9 c9)]).flatMap eV := by rw [List.flatMap_append]; simp
    rw [e2] at st
    have st2 : St h0.size h0 hp [rowsR 3 1 ((Value.slice A9 n9 c9, [nV i]) :: L), _] := St.star.2 st
    refine XA rfl rfl rfl (XR_nil (X_reg (XV rfl rfl rfl ?_)))
    first | refine XR_a (op_addN (n := 1) rfl rfl (by simp only [inK]; omega)) rfl rfl ?_ | refine XR_a (op_addI rfl rfl (by simp only [inK]; omega)) rfl rfl ?_ | refine XR_a (op_add rfl rfl) rfl rfl ?_
    refine XA rfl rfl rfl (XR_nil (X_blk ?_))
    refine X_again (i + 1, v, rs ++ [((wkey ws sy[i], [i]), Value.slice A9 n9 c9)], (Value.slice A9 n9 c9, [nV i]) :: L) (.cons rfl (.cons rfl (.cons rfl (.cons rfl (.cons rfl (.cons rfl (.nil _))))))) ⟨st2, by simp only; omega, by simp only [List.length_append, List.length_cons, List.length_nil]; omega, fun x hx => ?_, ?_⟩ (by simp only; omega)
    ·rcases List.mem_append.1 hx with h1 | h1
     ·exact List.mem_cons_of_mem _ (hL x h1)
     ·rw [List.mem_singleton.1 h1]; exact List.mem_cons_self
    ·rw [← hmg, merge_item (I := I) (P := P) (i := i) (k := k) (by omega) (fun hk9 => by rw [hIe, hPe]; simp only; omega), hIe]
     simp
   ·refine X_exit rfl ?_
    have hpush : (∀ hi : i < I.length, ¬ I[i].1 ≤ P[k].1) → rs.map (·.1) ++ P[k] :: (I.drop i).merge (P.drop (k + 1)) lePE = I.merge P lePE := fun h9 => by
     rw [← hmg, merge_pair (I := I) (i := i) hkP h9]
    refine X_draw_in (butAt [(8, .grow)]) [0, 1, 3, 4, 5, 6, 7, 9, 10, 11, 12, 13, 14, 2, 8, 15, 16, 17, 18, 19] (by kernel_rfl) (by kernel_rfl) rfl ?_
    refine XV rfl rfl rfl (XV rfl rfl rfl (XV rfl rfl rfl (XV rfl rfl rfl ?_)))
    refine XR_a (op_index (i := 2 * k) rfl rfl rfl (by omega)) rfl rfl ?_
    first | refine XR_a (op_field0 rfl rfl) rfl rfl ?_ | refine XR_a (op_fieldn rfl rfl) rfl rfl ?_
    refine XR_a (op_ld (hl3 st.low) rfl rfl rfl) rfl rfl ?_
    refine XV rfl rfl rfl (XV rfl rfl rfl ?_)
    first | refine XR_a (op_addN (n := 1) rfl rfl (by simp only [inK]; omega)) rfl rfl ?_ | refine XR_a (op_addI rfl rfl (by simp only [inK]; omega)) rfl rfl ?_ | refine XR_a (op_add rfl rfl) rfl rfl ?_
    refine XR_a (op_index (i := 2 * k + 1) rfl rfl rfl (by omega)) rfl rfl ?_
    first | refine XR_a (op_field0 rfl rfl) rfl rfl ?_ | refine XR_a (op_fieldn rfl rfl) rfl rfl ?_
    refine XR_a (op_ld (hl4 st.low) rfl rfl rfl) rfl rfl ?_
    refine XR_ga (opl_lit0p rfl) rfl rfl rfl (fun _ _ ⟨_, _, e⟩ => e.1) ?_
    rintro _ hp ⟨gb, rfl, hnew⟩
    replace st := st.new hnew
    refine XR_ga (opl_append_lit st 0 rfl (er1.ext st.low) (by rw [List.length_map]; omega) (one_nV _) (by simp; omega) rfl rfl rfl rfl rfl rfl rfl) rfl rfl rfl (fun _ _ h => h.1) ?_
    rintro v9 hp ⟨hx9, st⟩
    simp only [List.set_cons_zero] at st
    refine XR_wa (opl_append st 0 rfl (er2.ext st.low) (by rw [List.length_map]; omega) (one_nV _) (by simp; omega) rfl rfl rfl rfl rfl rfl rfl) rfl rfl rfl fun v hp st => ?_
    simp only [List.set_cons_zero, List.set_cons_succ] at st
    rw [← List.map_append] at st
    obtain ⟨A9, n9, c9, rfl, _⟩ := st.row 0 rfl
    refine XR_a (op_build (ps := [(0, nV (w1 + w2)), (1, .slice A9 n9 c9)]) (cs := (eV ((w1 + w2, H1 ++ H2), .slice A9 n9 c9)).toArray) rfl rfl) rfl rfl ?_
    refine XR_ga (opl_varA (us := eV ((w1 + w2, H1 ++ H2), .slice A9 n9 c9)) rfl rfl rfl rfl (by kernel_rfl)) rfl rfl rfl (fun _ _ ⟨_, _, e, _⟩ => e) ?_
    rintro _ hp ⟨A8, rfl, hx8, hrd⟩
    replace st := st.ext hx8
    refine XR_wa (opl_append st 2 rfl (hrd) (rfl) (by intro u hu; simp only [eV, List.mem_cons, List.not_mem_nil, or_false] at hu; rcases hu with rfl | rfl <;> rfl) (by rw [flat_length _ 2 (fun _ => rfl)]; simp [eV]; omega) rfl rfl rfl rfl rfl rfl rfl) rfl rfl rfl fun v hp st => ?_
    simp only [List.set_cons_zero, List.set_cons_succ] at st
    have e2 : rs.flatMap eV ++ eV ((w1 + w2, H1 ++ H2), .slice A9 n9 c9) = (rs ++ [((w1 + w2, H1 ++ H2), Value.slice A9 n9 c9)]).flatMap eV := by rw [List.flatMap_append]; simp
    rw [e2] at st
    have st2 : St h0.size h0 hp [rowsR 3 1 ((Value.slice A9 n9 c9, (H1 ++ H2).map nV) :: L), _] := St.star.2 st
    refine XA rfl rfl rfl (XR_nil (X_blk (X_reg (XV rfl rfl rfl ?_))))
    first | refine XR_a (op_addN (n := 2) rfl rfl (by simp only [inK]; omega)) rfl rfl ?_ | refine XR_a (op_addI rfl rfl (by simp only [inK]; omega)) rfl rfl ?_ | refine XR_a (op_add rfl rfl) rfl rfl ?_
    refine XA rfl rfl rfl (XR_nil ?_)
    refine X_again (i, k + 1, v, rs ++ [((w1 + w2, H1 ++ H2), Value.slice A9 n9 c9)], (Value.slice A9 n9 c9, (H1 ++ H2).map nV) :: L) (.cons rfl (.cons rfl (.cons rfl (.cons rfl (.cons rfl (.nil _)))))) ⟨st2, hi, by simp only; omega, by simp only [List.length_append, List.length_cons, List.length_nil]; omega, fun x hx => ?_, ?_⟩ (by simp only; omega)
    ·rcases List.mem_append.1 hx with h1 | h1
     ·exact List.mem_cons_of_mem _ (hL x h1)
     ·rw [List.mem_singleton.1 h1]; exact List.mem_cons_self
    ·have h9 := hpush (fun hi9 => by rw [hIe, hPe]; simp only; omega)
     rw [hPe] at h9
     simpa using h9
  ·have h32 := h
   refine XR_no rfl rfl (XR_no rfl rfl (XR_no rfl rfl (XR_no rfl rfl (XR_no rfl rfl (XR_no rfl rfl (XR_no rfl rfl (XR_a (op_pick_f rfl rfl) rfl rfl (XR_nil (X_else rfl ?_)))))))))
   refine X_exit rfl ?_
   have hpush : (∀ hi : i < I.length, ¬ I[i].1 ≤ P[k].1) → rs.map (·.1) ++ P[k] :: (I.drop i).merge (P.drop (k + 1)) lePE = I.merge P lePE := fun h9 => by
    rw [← hmg, merge_pair (I := I) (i := i) hkP h9]
   refine X_draw_in (butAt [(8, .grow)]) [0, 1, 3, 4, 5, 6, 7, 9, 10, 11, 12, 13, 14, 2, 8, 15, 16, 17, 18, 19] (by kernel_rfl) (by kernel_rfl) rfl ?_
   refine XV rfl rfl rfl (XV rfl rfl rfl (XV rfl rfl rfl (XV rfl rfl rfl ?_)))
   refine XR_a (op_index (i := 2 * k) rfl rfl rfl (by omega)) rfl rfl ?_
   first | refine XR_a (op_field0 rfl rfl) rfl rfl ?_ | refine XR_a (op_fieldn rfl rfl) rfl rfl ?_
   refine XR_a (op_ld (hl3 st.low) rfl rfl rfl) rfl rfl ?_
   refine XV rfl rfl rfl (XV rfl rfl rfl ?_)
   first | refine XR_a (op_addN (n := 1) rfl rfl (by simp only [inK]; omega)) rfl rfl ?_ | refine XR_a (op_addI rfl rfl (by simp only [inK]; omega)) rfl rfl ?_ | refine XR_a (op_add rfl rfl) rfl rfl ?_
   refine XR_a (op_index (i := 2 * k + 1) rfl rfl rfl (by omega)) rfl rfl ?_
   first | refine XR_a (op_field0 rfl rfl) rfl rfl ?_ | refine XR_a (op_fieldn rfl rfl) rfl rfl ?_
   refine XR_a (op_ld (hl4 st.low) rfl rfl rfl) rfl rfl ?_
   refine XR_ga (opl_lit0p rfl) rfl rfl rfl (fun _ _ ⟨_, _, e⟩ => e.1) ?_
   rintro _ hp ⟨gb, rfl, hnew⟩
   replace st := st.new hnew
   refine XR_ga (opl_append_lit st 0 rfl (er1.ext st.low) (by rw [List.length_map]; omega) (one_nV _) (by simp; omega) rfl rfl rfl rfl rfl rfl rfl) rfl rfl rfl (fun _ _ h => h.1) ?_
   rintro v9 hp ⟨hx9, st⟩
   simp only [List.set_cons_zero] at st
   refine XR_wa (opl_append st 0 rfl (er2.ext st.low) (by rw [List.length_map]; omega) (one_nV _) (by simp; omega) rfl rfl rfl rfl rfl rfl rfl) rfl rfl rfl fun v hp st => ?_
   simp only [List.set_cons_zero, List.set_cons_succ] at st
   rw [← List.map_append] at st
   obtain ⟨A9, n9, c9, rfl, _⟩ := st.row 0 rfl
   refine XR_a (op_build (ps := [(0, nV (w1 + w2)), (1, .slice A9 n9 c9)]) (cs := (eV ((w1 + w2, H1 ++ H2), .slice A9 n9 c9)).toArray) rfl rfl) rfl rfl ?_
   refine XR_ga (opl_varA (us := eV ((w1 + w2, H1 ++ H2), .slice A9 n9 c9)) rfl rfl rfl rfl (by kernel_rfl)) rfl rfl rfl (fun _ _ ⟨_, _, e, _⟩ => e) ?_
   rintro _ hp ⟨A8, rfl, hx8, hrd⟩
   replace st := st.ext hx8
   refine XR_wa (opl_append st 2 rfl (hrd) (rfl) (by intro u hu; simp only [eV, List.mem_cons, List.not_mem_nil, or_false] at hu; rcases hu with rfl | rfl <;> rfl) (by rw [flat_length _ 2 (fun _ => rfl)]; simp [eV]; omega) rfl rfl rfl rfl rfl rfl rfl) rfl rfl rfl fun v hp st => ?_
   simp only [List.set_cons_zero, List.set_cons_succ] at st
   have e2 : rs.flatMap eV ++ eV ((w1 + w2, H1 ++ H2), .slice A9 n9 c9) = (rs ++ [((w1 + w2, H1 ++ H2), Value.slice A9 n9 c9)]).flatMap eV := by rw [List.flatMap_append]; simp
   rw [e2] at st
   have st2 : St h0.size h0 hp [rowsR 3 1 ((Value.slice A9 n9 c9, (H1 ++ H2).map nV) :: L), _] := St.star.2 st
   refine XA rfl rfl rfl (XR_nil (X_blk (X_reg (XV rfl rfl rfl ?_))))
   first | refine XR_a (op_addN (n := 2) rfl rfl (by simp only [inK]; omega)) rfl rfl ?_ | refine XR_a (op_addI rfl rfl (by simp only [inK]; omega)) rfl rfl ?_ | refine XR_a (op_add rfl rfl) rfl rfl ?_
   refine XA rfl rfl rfl (XR_nil ?_)
   refine X_again (i, k + 1, v, rs ++ [((w1 + w2, H1 ++ H2), Value.slice A9 n9 c9)], (Value.slice A9 n9 c9, (H1 ++ H2).map nV) :: L) (.cons rfl (.cons rfl (.cons rfl (.cons rfl (.cons rfl (.nil _)))))) ⟨st2, hi, by simp only; omega, by simp only [List.length_append, List.length_cons, List.length_nil]; omega, fun x hx => ?_, ?_⟩ (by simp only; omega)
   ·rcases List.mem_append.1 hx with h1 | h1
    ·exact List.mem_cons_of_mem _ (hL x h1)
    ·rw [List.mem_singleton.1 h1]; exact List.mem_cons_self
   ·have h9 := hpush (fun hi9 => by omega)
    rw [hPe] at h9
    simpa using h9
 ·refine X_exit rfl (X_seq (X_block ?_))
  have hkq : P.length ≤ k := by omega
  refine X_loop (fun s => n - s.1) (fun s => [(0, .slice A n c), (5, s.2.1), (6, nV s.1)])
   (fun (s : Nat × Value × List (PE × Value) × List (Value × List Value)) hp => St h0.size h0 hp [rowsR 3 1 s.2.2.2, row 135 2 s.2.1 (s.2.2.1.flatMap eV)] ∧ s.1 ≤ n ∧ s.2.2.1.length = s.1 + k ∧ (∀ x ∈ s.2.2.1, (x.2, x.1.2.map nV) ∈ s.2.2.2) ∧
    s.2.2.1.map (·.1) ++ (I.drop s.1).merge (P.drop k) lePE = I.merge P lePE)
   (i, v, rs, L) (.cons rfl (.cons rfl (.cons rfl (.nil _)))) ⟨st, hi, hout, hL, hmg⟩ ?_
  clear st hi hout hL hmg
  rintro ⟨i, v, rs, L⟩ hp2 ⟨st, hi, hout, hL, hmg⟩
  simp only at st hi hout hL hmg ⊢
  refine X_seq (X_seq (X_reg (XV rfl rfl rfl (XV rfl rfl rfl ?_))))
  refine XR_a (op_len rfl rfl rfl) rfl rfl ?_
  refine XR_a (op_lss rfl rfl) rfl rfl ?_
  refine XR_nil ?_
  refine X_if rfl (fun h => ?_) (fun h => ?_)
  ·have hin : i < n := by omega
   obtain ⟨gA, oA, rfl, hcell⟩ := hget i hin
   have hIe := hIi i hin
   refine X_skip (X_block (X_seq (X_reg (XV rfl rfl rfl (XV rfl rfl rfl (XV rfl rfl rfl ?_))))))
   first | refine XR_a (op_index1 rfl rfl rfl (by omega)) rfl rfl ?_ | refine XR_a (op_index rfl rfl rfl (by omega)) rfl rfl ?_
   first | refine XR_a (op_field0 rfl rfl) rfl rfl ?_ | refine XR_a (op_fieldn rfl rfl) rfl rfl ?_
   refine XR_a (op_ld (hcell st.low) rfl rfl rfl) rfl rfl ?_
   refine XV rfl rfl rfl ?_
   refine XR_wa (opl_lit1 rfl rfl rfl) rfl rfl rfl ?_
   rintro v9 hp hnew
   replace st := st.new hnew
   obtain ⟨A9, n9, c9, rfl, _⟩ := st.row 0 rfl
   refine XR_a (op_build (ps := [(0, nV (wkey ws sy[i])), (1, .slice A9 n9 c9)]) (cs := (eV ((wkey ws sy[i], [i]), .slice A9 n9 c9)).toArray) rfl rfl) rfl rfl ?_
   refine XR_wa (opl_varA (us := eV ((wkey ws sy[i], [i]), .slice A9 n9 c9)) rfl rfl rfl rfl (by kernel_rfl)) rfl rfl rfl ?_
   rintro _ hp ⟨A8, rfl, hx8, hrd⟩
   replace st := st.ext hx8
   refine XR_wa (opl_append st 2 rfl (hrd) (rfl) (by intro u hu; simp only [eV, List.mem_cons, List.not_mem_nil, or_false] at hu; rcases hu with rfl | rfl <;> rfl) (by rw [flat_length _ 2 (fun _ => rfl)]; simp [eV]; omega) rfl rfl rfl rfl rfl rfl rfl) rfl rfl rfl fun v hp st => ?_
   simp only [List.set_cons_zero, List.set_cons_succ] at st
   have e2 : rs.flatMap eV ++ eV ((wkey ws sy[i], [i]), .slice A9 n9 c9) = (rs ++ [((wkey ws sy[i], [i]), Value.slice A9 n9 c9)]).flatMap eV := by rw [List.flatMap_append]; simp
   rw [e2] at st
   have st2 : St h0.size h0 hp [rowsR 3 1 ((Value.slice A9 n9 c9, [nV i]) :: L), _] := St.star.2 st
   refine XA rfl rfl rfl (XR_nil (X_reg (XV rfl rfl rfl ?_)))
   first | refine XR_a (op_addN (n := 1) rfl rfl (by simp only [inK]; omega)) rfl rfl ?_ | refine XR_a (op_addI rfl rfl (by simp only [inK]; omega)) rfl rfl ?_ | refine XR_a (op_add rfl rfl) rfl rfl ?_
   refine XA rfl rfl rfl (XR_nil (X_blk ?_))
   refine X_again (i + 1, v, rs ++ [((wkey ws sy[i], [i]), Value.slice A9 n9 c9)], (Value.slice A9 n9 c9, [nV i]) :: L) (.cons rfl (.cons rfl (.cons rfl (.nil _)))) ⟨st2, by simp only; omega, by simp only [List.length_append, List.length_cons, List.length_nil]; omega, fun x hx => ?_, ?_⟩ (by simp only; omega)
   ·rcases List.mem_append.1 hx with h1 | h1
    ·exact List.mem_cons_of_mem _ (hL x h1)
    ·rw [List.mem_singleton.1 h1]; exact List.mem_cons_self
   ·rw [← hmg, merge_item (I := I) (P := P) (i := i) (k := k) (by omega) (fun hk9 => by omega), hIe]
    simp
  ·refine X_exit rfl (X_seq (X_reg (XV rfl rfl rfl (XA rfl rfl rfl (XR_nil ?_)))))
   refine X_ret (.cons (.tmp rfl) .nil) ?_
   rw [List.drop_of_length_le (by omega), List.drop_of_length_le (by omega), List.merge_right, List.append_nil] at hmg
   exact ⟨rs, L, hmg, hL, st⟩
end Go.Bn
namespace Go.Bn
open Go Proofs
noncomputable def cntL (ws F : List Nat) : List Nat := (List.range ws.length).map fun s => F.count ((syms ws).idxOf s)
theorem cntL_len (ws F : List Nat) : (cntL ws F).length = ws.length := by simp [cntL]
theorem cntL_nil (ws : List Nat) : cntL ws [] = List.replicate ws.length 0 := by
 refine List.ext_getElem (by simp [cntL]) fun i h1 h2 => ?_
 simp [cntL]
theorem cntL_get {ws F : List Nat} {s : Nat} (hs : s < ws.length) : (cntL ws F)[s]? = some (F.count ((syms ws).idxOf s)) := by
 unfold cntL; simp [hs]
theorem cntL_set {ws F : List Nat} {x : Nat} (hx : x < (syms ws).length) : (cntL ws F).set ((syms ws).getD x 0) (F.count x + 1) = cntL ws (F ++ [x]) := by
 refine List.ext_getElem (by simp [cntL]) fun i h1 h2 => ?_
 have hi : i < ws.length := by simpa [cntL] using h2
 rw [List.getElem_set]
 have hxi := idxOf_getD hx
 by_cases h : (syms ws).getD x 0 = i
 ·rw [if_pos h]
  simp only [cntL, List.getElem_map, List.getElem_range]
  rw [← h, hxi, List.count_append]; simp
 ·rw [if_neg h]
  simp only [cntL, List.getElem_map, List.getElem_range]
  have hne : ¬ x = (syms ws).idxOf i := fun he => by
   have hl : (syms ws).idxOf i < (syms ws).length := by omega
   have := List.getElem_idxOf hl
   refine h ?_
   rw [getD_eq hx, ← this]
   simp only [he]
  rw [List.count_append, List.count_singleton, beq_eq_false_iff_ne.2 hne]; rfl
theorem rowE_idx {ws : List Nat} : ∀ j, ∀ e ∈ rowE ws j, ∀ x ∈ e.2, x < ws.length
 | 0, e, h => by simp [rowE] at h
 | j + 1, e, h => by
  rw [rowE, List.mem_merge] at h
  rcases h with h | h
  ·simp only [itemsE, List.mem_map, List.mem_range] at h
   obtain ⟨i, hi, rfl⟩ := h
   intro x hx
   obtain rfl : x = i := by simpa using hx
   exact hi
  ·obtain ⟨u, v, hu, hv, rfl⟩ := pairsE_mem h
   intro x hx
   rcases List.mem_append.1 hx with h1 | h1
   ·exact rowE_idx j u hu x h1
   ·exact rowE_idx j v hv x h1
theorem rowE_hlen {ws : List Nat} : ∀ j, ∀ e ∈ rowE ws j, e.2.length ≤ 2 ^ j
 | 0, e, h => by simp [rowE] at h
 | j + 1, e, h => by
  have hp : 2 ^ (j + 1) = 2 * 2 ^ j := by rw [Nat.pow_succ, Nat.mul_comm]
  have hp1 : 0 < 2 ^ j := Nat.pow_pos (by omega)
  rw [rowE, List.mem_merge] at h
  rcases h with h | h
  ·simp only [itemsE, List.mem_map, List.mem_range] at h
   obtain ⟨i, hi, rfl⟩ := h
   simp only [List.length_cons, List.length_nil]; omega
  ·obtain ⟨u, v, hu, hv, rfl⟩ := pairsE_mem h
   have := rowE_hlen j u hu
   have := rowE_hlen j v hv
   simp only [List.length_append]; omega
theorem rowE_wbd {ws : List Nat} {b : Nat} (hw : ∀ x ∈ ws, x ≤ b) : ∀ j, ∀ e ∈ rowE ws j, e.1 ≤ b * 2 ^ j
 | 0, e, h => by simp [rowE] at h
 | j + 1, e, h => by
  have hp : 2 ^ (j + 1) = 2 * 2 ^ j := by rw [Nat.pow_succ, Nat.mul_comm]
  have hp1 : 0 < 2 ^ j := Nat.pow_pos (by omega)
  rw [rowE, List.mem_merge] at h
  rcases h with h | h
  ·simp only [itemsE, List.mem_map, List.mem_range] at h
   obtain ⟨i, hi, rfl⟩ := h
   have := hw _ (List.getElem_mem hi)
   have e : ws.getD i 0 = ws[i] := getD_eq hi
   simp only [e]
   have : b * 1 ≤ b * 2 ^ (j + 1) := Nat.mul_le_mul_left _ (by omega)
   omega
  ·obtain ⟨u, v, hu, hv, rfl⟩ := pairsE_mem h
   have h1 := rowE_wbd hw j u hu
   have h2 := rowE_wbd hw j v hv
   simp only
   rw [hp, Nat.mul_left_comm]; omega
theorem lengths_ref {n c : Nat} {A : Option Addr} {ws : List Nat} {h0 : Heap} (hr : Rd h0 A (ws.map nV)) (hl : ws.length = n) (hn : n ≤ 320) (hwb : ∀ s, wkey ws s ≤ 1073741824) :
  Ret Try.prog 46 [.slice A n c] h0 fun v h' => St h0.size h0 h' [row 3 1 v ((lensW ws).map nV)] := by
 have hsl := syms_len ws
 refine ret_of_X Try.func46 rfl rfl fun w0 hw0 => ?_
 simp only [argE, Nat.zero_add, Nat.reduceAdd]
 have st := St.start h0
 refine X_seq (X_reg (XA rfl rfl rfl (XR_nil (X_seq (X_reg (XV rfl rfl rfl ?_))))))
 refine XR_a (op_len rfl rfl rfl) rfl rfl ?_
 refine XR_wa (opl_mk (by omega) rfl rfl rfl) rfl rfl rfl ?_
 rintro v hp hnew
 have st := st.new hnew
 obtain ⟨Ao, no, co, rfl, hno, _, _, _⟩ := st.row 0 rfl
 rw [List.length_replicate, Nat.mul_one] at hno
 obtain rfl : n = no := hno
 rw [show List.replicate n (Value.int .i64 0) = (cntL ws []).map nV by rw [cntL_nil, List.map_replicate, hl]; rfl] at st
 refine XA rfl rfl rfl (XR_nil (X_seq (X_reg (XV rfl rfl rfl ?_))))
 refine XR_wa (opl_call (items_ref (hr.ext st.low) hl (by omega)) rfl (by kernel_rfl)) rfl rfl rfl ?_
 rintro v2 hp2 st2
 obtain ⟨As, ns, cs, rfl, hls, _, _, _⟩ := st2.row 0 rfl
 rw [flat_length _ 2 (fun _ => rfl)] at hls
 replace st := st.join st2
 simp only [List.cons_append, List.nil_append] at st
 refine XA rfl rfl rfl (XR_nil (X_seq (X_seq (X_reg (XV rfl rfl rfl ?_)))))
 refine XR_a (op_len rfl rfl rfl) rfl rfl ?_
 refine XR_a (op_eql rfl rfl) rfl rfl ?_
 refine XR_nil ?_
 refine X_if rfl (fun h => ?_) (fun h => ?_)
 ·have h3 : (syms ws).length = 1 := by omega
  obtain ⟨g5, o5, rfl, hc5⟩ := Rd.flat (pC ws) 2 (st.rdS 0 rfl).2 (fun _ => rfl) (by omega) (by omega)
  have hs0 := hc5 0 (by omega) 0 (nV ((syms ws).getD 0 0)) (by rw [getD_eq (by omega)]; rfl)
  have hsn := (mem_syms.1 (getD_mem (l := syms ws) (i := 0) (by omega))).1
  obtain ⟨go, no', co', heo, _⟩ := st.row0 1 rfl (by rw [List.length_map, cntL_len]; omega)
  cases heo
  refine X_reg (XV rfl rfl rfl (XV rfl rfl rfl ?_))
  refine XR_a (op_index (i := 0) rfl rfl rfl (by omega)) rfl rfl ?_
  first | refine XR_a (op_field0 rfl rfl) rfl rfl ?_ | refine XR_a (op_fieldn rfl rfl) rfl rfl ?_
  refine XR_a (op_ld (hs0) rfl rfl rfl) rfl rfl ?_
  first | refine XR_a (op_index1 rfl rfl rfl (by omega)) rfl rfl ?_ | refine XR_a (op_index rfl rfl rfl (by omega)) rfl rfl ?_
  refine XR_wn (opl_store_row (v := nV 1) st 1 rfl rfl rfl (by rw [List.length_map, cntL_len]; exact hsn) rfl rfl) rfl rfl fun _ hp st => ?_
  simp only [List.set_cons_zero, List.set_cons_succ] at st
  rw [map_set_nV, cntL_nil, lensW_single h3] at st
  refine XR_nil (X_seq (X_seq (X_reg (XV rfl rfl rfl ?_))))
  refine XR_a (op_len rfl rfl rfl) rfl rfl ?_
  refine XR_a (op_lss rfl rfl) rfl rfl ?_
  refine XR_nil ?_
  refine X_if rfl (fun h => ?_) (fun h => ?_)
  ·refine X_seq (X_reg (XV rfl rfl rfl (XA rfl rfl rfl (XR_nil ?_))))
   refine X_ret (.cons (.tmp rfl) .nil) ?_
   exact st.tail
  ·exact absurd h (by omega)
 ·refine X_skip (X_seq (X_seq (X_reg (XV rfl rfl rfl ?_))))
  refine XR_a (op_len rfl rfl rfl) rfl rfl ?_
  refine XR_a (op_lss rfl rfl) rfl rfl ?_
  refine XR_nil ?_
  refine X_if rfl (fun h => ?_) (fun h => ?_)
  ·refine X_seq (X_reg (XV rfl rfl rfl (XA rfl rfl rfl (XR_nil ?_))))
   refine X_ret (.cons (.tmp rfl) .nil) ?_
   rw [lensW_zero (by omega), ← cntL_nil]
   exact st.tail
  ·refine X_skip (X_seq ?_)
   have h2n : 2 ≤ (syms ws).length := by omega
   obtain ⟨go, no', co', heo, _⟩ := st.row0 1 rfl (by rw [List.length_map, cntL_len]; omega)
   cases heo
   have hswl := sws_length ws
   have hwE := fun j => rowE_wbd (ws := sws ws) (b := 1073741824) (fun x hx => by obtain ⟨s, _, rfl⟩ := List.mem_map.1 hx; exact hwb s) j
   refine X_reg (XA rfl rfl rfl (XR_nil (X_seq (X_seq (X_reg (XA rfl rfl rfl (XR_nil (X_block ?_))))))))
   replace st := (st.nilrow 135 2)
   replace st : St h0.size h0 _ [rowsR 3 1 [], _, _, _] := St.emp.2 st
   refine X_loop (fun s => 15 - s.1) (fun s => [(3, .slice (some ⟨go, 0, none⟩) n co), (4, .slice As ns cs), (5, s.2.1), (6, nV s.1)])
    (fun (s : Nat × Value × List (PE × Value) × List (Value × List Value)) hp => s.1 ≤ 15 ∧ s.2.2.1.map (·.1) = rowE (sws ws) s.1 ∧ (∀ x ∈ s.2.2.1, (x.2, x.1.2.map nV) ∈ s.2.2.2) ∧
     St h0.size h0 hp [rowsR 3 1 s.2.2.2, row 135 2 s.2.1 (s.2.2.1.flatMap eV), row 131 2 (.slice As ns cs) ((syms ws).flatMap (pC ws)), row 3 1 (.slice (some ⟨go, 0, none⟩) n co) ((cntL ws []).map nV)])
    (0, _, [], []) (.cons rfl (.cons rfl (.cons rfl (.cons rfl (.nil _))))) ⟨by simp only; omega, rfl, by simp, st⟩ ?_
   clear st
   rintro ⟨j, v, rs, L⟩ hp ⟨hj, hrs, hL, st⟩
   simp only at hj hrs hL st ⊢
   obtain ⟨A5, n5, c5, rfl, hn5, _, _, hrd5⟩ := st.row 1 rfl
   rw [flat_length _ 2 (fun _ => rfl)] at hn5
   have hrl : rs.length = n5 := by omega
   have hrE : (rowE (sws ws) j).length = n5 := by rw [← hrs, List.length_map, hrl]
   have hb5 := rowE_bd (sws ws) j
   have hokH : ∀ x ∈ rs, okH hp x := fun x hx => by
    obtain ⟨A6, n6, c6, e1, e2, _, _, e3⟩ := st.rowsAt 0 rfl (hL x hx)
    refine ⟨A6, n6, c6, e1, ?_, e3⟩
    simpa using e2
   have hmemE : ∀ x ∈ rs, x.1 ∈ rowE (sws ws) j := fun x hx => by rw [← hrs]; exact List.mem_map_of_mem hx
   refine X_seq (X_seq (X_reg (XV rfl rfl rfl ?_)))
   refine XR_a (op_lss rfl rfl) rfl rfl ?_
   refine XR_nil ?_
   refine X_if rfl (fun h => ?_) (fun h => ?_)
   ·have hp15 : 2 ^ j ≤ 32768 := Nat.le_trans (Nat.pow_le_pow_right (n := 2) (by omega) (show j ≤ 15 by omega)) (by decide)
    refine X_skip (X_seq (X_block (X_reg (XV rfl rfl rfl (XV rfl rfl rfl ?_)))))
    refine XR_wa (opl_call (row_ref (sy := syms ws) (st.rdS 2 rfl).2 (by omega) hrd5 hrl hokH (by omega) (by omega) (fun x hx => by have h1 := hwE j _ (hmemE x hx); have h2 : 1073741824 * 2 ^ j ≤ 1073741824 * 32768 := Nat.mul_le_mul_left _ hp15; omega) (fun x hx => by have h1 := rowE_hlen j _ (hmemE x hx); omega)) rfl (by kernel_rfl)) rfl rfl rfl ?_
    rintro v7 hp7 ⟨rs', L', e1, e2, st7⟩
    rw [hrs] at e1
    replace st := ((st.join st7).re 6 [0, 1, 4, 5, 2, 3] (by decide)).keep 4
    simp only [List.map_cons, List.map_nil, getR, List.take_succ_cons, List.take_zero] at st
    refine XA rfl rfl rfl (XR_nil (X_blk (X_reg (XV rfl rfl rfl ?_))))
    first | refine XR_a (op_addN (n := 1) rfl rfl (by simp only [inK]; omega)) rfl rfl ?_ | refine XR_a (op_addI rfl rfl (by simp only [inK]; omega)) rfl rfl ?_ | refine XR_a (op_add rfl rfl) rfl rfl ?_
    refine XA rfl rfl rfl (XR_nil ?_)
    exact X_again (j + 1, v7, rs', L') (.cons rfl (.cons rfl (.cons rfl (.cons rfl (.nil _))))) ⟨by simp only; omega, e1, e2, st⟩ (by simp only; omega)
   ·refine X_exit rfl (X_seq (X_seq ?_))
    obtain rfl : j = 15 := by omega
    have hTl := rowW_len h2n (by omega)
    have hcb : ∀ t x, t ≤ (rowE (sws ws) 15).length → (((rowE (sws ws) 15).take t).flatMap (·.2)).count x ≤ 15 := fun t x ht => by
     rw [count_lev (sws_asc ws) 15 t ht x]
     have := lvl_le (lev (sws ws) 15 t) x
     rw [lev_length] at this
     exact this
    refine X_reg (XA rfl rfl rfl (XR_nil (X_block ?_)))
    refine X_loop (fun i => 2 * ns - i) (fun i => [(3, .slice (some ⟨go, 0, none⟩) n co), (4, .slice As ns cs), (5, .slice A5 n5 c5), (7, nV i)])
     (fun (i : Nat) hp => i ≤ 2 * ns - 2 ∧ St h0.size h0 hp [rowsR 3 1 L, row 135 2 (.slice A5 n5 c5) (rs.flatMap eV), row 131 2 (.slice As ns cs) ((syms ws).flatMap (pC ws)), row 3 1 (.slice (some ⟨go, 0, none⟩) n co) ((cntL ws (((rowE (sws ws) 15).take i).flatMap (·.2))).map nV)])
     0 (.cons rfl (.cons rfl (.cons rfl (.cons rfl (.nil _))))) ⟨by omega, by simpa using st⟩ ?_
    clear st hokH hrd5
    rintro i hp2 ⟨hi, st⟩
    refine X_seq (X_seq (X_reg (XV rfl rfl rfl (XV rfl rfl rfl ?_))))
    refine XR_a (op_len rfl rfl rfl) rfl rfl ?_
    first | refine XR_a (op_mulN (m := 2) rfl rfl (by simp only [inK]; omega)) rfl rfl ?_ | refine XR_a (op_mulI rfl rfl (by simp only [inK]; omega)) rfl rfl ?_ | refine XR_a (op_mul rfl rfl) rfl rfl ?_
    refine XR_a (op_subN (m := 2 * ns) (n := 2) rfl rfl (by omega) (by simp only [inK]; omega)) rfl rfl ?_
    refine XR_a (op_lss rfl rfl) rfl rfl ?_
    refine XV rfl rfl rfl ?_
    refine XR_if 41 rfl (fun h => ?_) (fun h => ?_)
    ·refine XV rfl rfl rfl (XV rfl rfl rfl ?_)
     refine XR_a (op_len rfl rfl rfl) rfl rfl ?_
     refine XR_a (op_lss rfl rfl) rfl rfl ?_
     refine XR_a (op_pick_t rfl rfl) rfl rfl (XR_nil ?_)
     refine X_if rfl (fun h => ?_) (fun h => ?_)
     ·have hir : i < rs.length := by omega
      have hiE : i < (rowE (sws ws) 15).length := by omega
      have hx1 := hL _ (List.getElem_mem hir)
      have hri : rs[i].1 = (rowE (sws ws) 15)[i] := by
       have : (rs.map (·.1))[i]'(by rw [List.length_map]; exact hir) = (rowE (sws ws) 15)[i] := by simp only [hrs]
       rw [← this, List.getElem_map]
      have htk := List.take_succ_eq_append_getElem hiE
      have hidx := rowE_idx 15 _ (List.getElem_mem hiE)
      rw [hswl] at hidx
      have hhl := rowE_hlen 15 _ (List.getElem_mem hiE)
      obtain ⟨gE, oE, hAe, hcE⟩ := Rd.flat eV 2 (st.rdS 1 rfl).2 (fun _ => rfl) (by omega) (by omega)
      cases hAe
      obtain ⟨⟨e, ve⟩, hee⟩ : ∃ x, rs[i] = x := ⟨_, rfl⟩
      rw [hee] at hri hx1
      simp only at hri hx1
      rw [← hri] at htk hidx hhl
      obtain ⟨A6, n6, c6, hv6, hn6, _, _, _⟩ := st.rowsAt 0 rfl hx1
      simp only at hv6
      subst hv6
      simp only [List.length_map, Nat.mul_one] at hn6
      refine X_skip (X_seq (X_block (X_seq (X_reg (XA rfl rfl rfl (XR_nil (X_block ?_)))))))
      refine X_loop (fun k => n6 - k) (fun k => [(3, .slice (some ⟨go, 0, none⟩) n co), (4, .slice As ns cs), (5, .slice (some ⟨gE, oE, none⟩) n5 c5), (7, nV i), (8, nV k)])
       (fun (k : Nat) hp => k ≤ n6 ∧ St h0.size h0 hp [rowsR 3 1 L, row 135 2 (.slice (some ⟨gE, oE, none⟩) n5 c5) (rs.flatMap eV), row 131 2 (.slice As ns cs) ((syms ws).flatMap (pC ws)), row 3 1 (.slice (some ⟨go, 0, none⟩) n co) ((cntL ws (((rowE (sws ws) 15).take i).flatMap (·.2) ++ e.2.take k)).map nV)])
       0 (.cons rfl (.cons rfl (.cons rfl (.cons rfl (.cons rfl (.nil _)))))) ⟨by omega, by simpa using st⟩ ?_
      clear st hcE
      rintro k hp3 ⟨hk, st⟩
      obtain ⟨_, _, hAe, hcE⟩ := Rd.flat eV 2 (st.rdS 1 rfl).2 (fun _ => rfl) (by omega) (by omega)
      cases hAe
      have hcv := hcE i hir 1 (.slice A6 n6 c6) (by rw [hee]; rfl)
      refine X_seq (X_seq (X_reg (XV rfl rfl rfl (XV rfl rfl rfl (XV rfl rfl rfl ?_)))))
      refine XR_a (op_index (i := i) rfl rfl rfl (by omega)) rfl rfl ?_
      first | refine XR_a (op_field0 rfl rfl) rfl rfl ?_ | refine XR_a (op_fieldn rfl rfl) rfl rfl ?_
      refine XR_a (op_ld (hcv) rfl rfl rfl) rfl rfl ?_
      refine XR_a (op_len rfl rfl rfl) rfl rfl ?_
      refine XR_a (op_lss rfl rfl) rfl rfl ?_
      refine XR_nil ?_
      refine X_if rfl (fun h => ?_) (fun h => ?_)
      ·have hke : k < e.2.length := by omega
       obtain ⟨A6', n6', c6', hv6', _, _, _, hrd6⟩ := st.rowsAt 0 rfl hx1
       cases hv6'
       obtain ⟨g6, o6, rfl, hc6⟩ := hrd6.at_ (by rw [List.length_map]; omega)
       have hce := hc6 k (nV e.2[k]) (by simp [hke])
       have hxs := hidx _ (List.getElem_mem hke)
       obtain ⟨x, hxe⟩ : ∃ x, e.2[k] = x := ⟨_, rfl⟩
       rw [hxe] at hce hxs
       obtain ⟨g7, o7, rfl, hc7⟩ := Rd.flat (pC ws) 2 (st.rdS 2 rfl).2 (fun _ => rfl) (by omega) (by omega)
       have hcs := hc7 x hxs 0 (nV ((syms ws).getD x 0)) (by rw [getD_eq hxs]; rfl)
       have hsn := (mem_syms.1 (getD_mem (l := syms ws) hxs)).1
       have hog := cntL_get (F := ((rowE (sws ws) 15).take i).flatMap (·.2) ++ e.2.take k) hsn
       rw [idxOf_getD hxs] at hog
       obtain ⟨_, _, he8, hc8⟩ := (st.rdS 3 rfl).2.at_ (by rw [List.length_map, cntL_len]; omega)
       cases he8
       have hov := hc8 _ _ (map_get_nV hog)
       have hset := cntL_set (F := ((rowE (sws ws) 15).take i).flatMap (·.2) ++ e.2.take k) hxs
       have hlt : (((rowE (sws ws) 15).take i).flatMap (·.2) ++ e.2.take k).count x ≤ 15 := by
        refine Nat.le_trans (List.Sublist.count_le x ?_) (hcb (i + 1) x hiE)
        rw [htk, List.flatMap_append]
        refine List.Sublist.append_left ?_ _
        simpa using List.take_sublist k e.2
       rw [List.append_assoc, ← hxe, ← List.take_succ_eq_append_getElem hke, hxe] at hset
       obtain ⟨F, hF⟩ : ∃ F, ((rowE (sws ws) 15).take i).flatMap (·.2) ++ e.2.take k = F := ⟨_, rfl⟩
       rw [hF] at hov hset hlt st
       refine X_skip (X_seq (X_block (X_seq (X_reg (XV rfl rfl rfl (XV rfl rfl rfl (XV rfl rfl rfl ?_)))))))
       refine XR_a (op_index (i := i) rfl rfl rfl (by omega)) rfl rfl ?_
       first | refine XR_a (op_field0 rfl rfl) rfl rfl ?_ | refine XR_a (op_fieldn rfl rfl) rfl rfl ?_
       refine XR_a (op_ld (hcv) rfl rfl rfl) rfl rfl ?_
       refine XV rfl rfl rfl ?_
       first | refine XR_a (op_index1 rfl rfl rfl (by omega)) rfl rfl ?_ | refine XR_a (op_index rfl rfl rfl (by omega)) rfl rfl ?_
       refine XR_a (op_ld (hce) rfl rfl rfl) rfl rfl ?_
       refine XR_a (op_index (i := x) rfl rfl rfl (by omega)) rfl rfl ?_
       first | refine XR_a (op_field0 rfl rfl) rfl rfl ?_ | refine XR_a (op_fieldn rfl rfl) rfl rfl ?_
       refine XR_a (op_ld (hcs) rfl rfl rfl) rfl rfl ?_
       refine XA rfl rfl rfl (XR_nil (X_reg (XV rfl rfl rfl (XV rfl rfl rfl (XV rfl rfl rfl (XV rfl rfl rfl ?_))))))
       first | refine XR_a (op_index1 rfl rfl rfl (by omega)) rfl rfl ?_ | refine XR_a (op_index rfl rfl rfl (by omega)) rfl rfl ?_
       refine XR_a (op_ld (hov) rfl rfl rfl) rfl rfl ?_
       first | refine XR_a (op_addN (n := 1) rfl rfl (by simp only [inK]; omega)) rfl rfl ?_ | refine XR_a (op_addI rfl rfl (by simp only [inK]; omega)) rfl rfl ?_ | refine XR_a (op_add rfl rfl) rfl rfl ?_
       first | refine XR_a (op_index1 rfl rfl rfl (by omega)) rfl rfl ?_ | refine XR_a (op_index rfl rfl rfl (by omega)) rfl rfl ?_
       refine XR_wn (opl_store_row (v := nV (F.count x + 1)) st 3 rfl rfl rfl (by rw [List.length_map, cntL_len]; exact hsn) rfl rfl) rfl rfl fun _ hp st => ?_
       simp only [List.set_cons_zero, List.set_cons_succ] at st
       rw [map_set_nV, hset] at st
       refine XR_nil (X_blk (X_reg (XV rfl rfl rfl ?_)))
       first | refine XR_a (op_addN (n := 1) rfl rfl (by simp only [inK]; omega)) rfl rfl ?_ | refine XR_a (op_addI rfl rfl (by simp only [inK]; omega)) rfl rfl ?_ | refine XR_a (op_add rfl rfl) rfl rfl ?_
       refine XA rfl rfl rfl (XR_nil ?_)
       exact X_again (k + 1) (.cons rfl (.cons rfl (.cons rfl (.cons rfl (.cons rfl (.nil _)))))) ⟨by omega, st⟩ (by omega)
      ·refine X_exit rfl (X_blk (X_reg (XV rfl rfl rfl ?_)))
       first | refine XR_a (op_addN (n := 1) rfl rfl (by simp only [inK]; omega)) rfl rfl ?_ | refine XR_a (op_addI rfl rfl (by simp only [inK]; omega)) rfl rfl ?_ | refine XR_a (op_add rfl rfl) rfl rfl ?_
       refine XA rfl rfl rfl (XR_nil ?_)
       obtain rfl : k = n6 := by omega
       rw [List.take_of_length_le (l := e.2) (i := k) (by omega)] at st
       have e9 : ((rowE (sws ws) 15).take i).flatMap (·.2) ++ e.2 = ((rowE (sws ws) 15).take (i + 1)).flatMap (·.2) := by
        rw [htk, List.flatMap_append]; simp
       rw [e9] at st
       exact X_again (i + 1) (.cons rfl (.cons rfl (.cons rfl (.cons rfl (.nil _))))) ⟨by omega, st⟩ (by omega)
     ·refine X_exit rfl (X_seq (X_reg (XV rfl rfl rfl (XA rfl rfl rfl (XR_nil ?_)))))
      refine X_ret (.cons (.tmp rfl) .nil) ?_
      have hi2 : i = 2 * (syms ws).length - 2 := by omega
      have hfin : cntL ws (((rowE (sws ws) 15).take i).flatMap (·.2)) = lensW ws := by
       rw [hi2]
       unfold cntL lensW
       refine List.map_congr_left fun s _ => ?_
       rw [count_lev (sws_asc ws) 15 _ hTl]
       unfold lenW lvl
       rw [levW_two h2n]
      rw [hfin] at st
      exact st.tail.tail.tail
    ·refine XR_no rfl rfl (XR_no rfl rfl (XR_no rfl rfl (XR_no rfl rfl (XR_a (op_pick_f rfl rfl) rfl rfl (XR_nil (X_else rfl (X_exit rfl (X_seq (X_reg ?_)))))))))
     refine XV rfl rfl rfl (XA rfl rfl rfl (XR_nil ?_))
     refine X_ret (.cons (.tmp rfl) .nil) ?_
     have hi2 : i = 2 * (syms ws).length - 2 := by omega
     have hfin : cntL ws (((rowE (sws ws) 15).take i).flatMap (·.2)) = lensW ws := by
      rw [hi2]
      unfold cntL lensW
      refine List.map_congr_left fun s _ => ?_
      rw [count_lev (sws_asc ws) 15 _ hTl]
      unfold lenW lvl
      rw [levW_two h2n]
     rw [hfin] at st
     exact st.tail.tail.tail
end Go.Bn
end
