/- The contracts of canon's codes. -/
import Derived.Test.YtdiglnhhmbhhjaaCanon
import Derived.Test.YtdiglnhhmbhhjaaAlt
set_option linter.unusedVariables false
set_option linter.unusedSimpArgs false
set_option maxHeartbeats 4000000
set_option maxRecDepth 20000
namespace Go.Bn
open Go Proofs

def codeC (a b o : Value) (f m : List Value) : List Value := a :: b :: (f ++ (m ++ [o]))
theorem codeC_len {a b o : Value} {f m : List Value} (hf : f.length = 16) (hm : m.length = 16) : (codeC a b o f m).length = 35 := by simp [codeC, hf, hm]
theorem codeC_f {a b o : Value} {f m : List Value} {x : Nat} (h : x < f.length) : (codeC a b o f m)[2 + x]? = f[x]? := by
  simp only [codeC, Nat.add_comm 2 x, List.getElem?_cons_succ]
  rw [List.getElem?_append_left h]
theorem codeC_m {a b o : Value} {f m : List Value} {x : Nat} (hf : f.length = 16) (h : x < m.length) : (codeC a b o f m)[18 + x]? = m[x]? := by
  rw [show 18 + x = (16 + x) + 2 by omega]
  simp only [codeC, List.getElem?_cons_succ]
  rw [List.getElem?_append_right (by omega), hf, Nat.add_sub_cancel_left, List.getElem?_append_left h]
theorem codeC_o {a b o : Value} {f m : List Value} (hf : f.length = 16) (hm : m.length = 16) : (codeC a b o f m)[34]? = some o := by
  simp only [codeC, List.getElem?_cons_succ]
  rw [List.getElem?_append_right (by omega), hf, List.getElem?_append_right (by omega), hm]; rfl
theorem codeC_setf {a b o v : Value} {f m : List Value} {x : Nat} (h : x < f.length) : (codeC a b o f m).set (2 + x) v = codeC a b o (f.set x v) m := by
  simp only [codeC, Nat.add_comm 2 x, List.set_cons_succ]
  rw [List.set_append_left _ _ h]
theorem codeC_setm {a b o v : Value} {f m : List Value} {x : Nat} (hf : f.length = 16) (h : x < m.length) : (codeC a b o f m).set (18 + x) v = codeC a b o f (m.set x v) := by
  rw [show 18 + x = (16 + x) + 2 by omega]
  simp only [codeC, List.set_cons_succ]
  rw [List.set_append_right _ _ (by omega), hf, Nat.add_sub_cancel_left, List.set_append_left _ _ h]
theorem codeC_seto {a b o v : Value} {f m : List Value} (hf : f.length = 16) (hm : m.length = 16) : (codeC a b o f m).set 34 v = codeC a b v f m := by
  simp only [codeC, List.set_cons_succ]
  rw [List.set_append_right _ _ (by omega), hf, List.set_append_right _ _ (by omega), hm]; rfl
theorem map_set_nV (l : List Nat) (i x : Nat) : (l.map nV).set i (nV x) = (l.set i x).map nV := by rw [List.map_set]
theorem map_get_nV {l : List Nat} {i x : Nat} (h : l[i]? = some x) : (l.map nV)[i]? = some (nV x) := by rw [List.getElem?_map, h]; rfl

/-- A code's block and slices. -/
@[reducible] def codeG (p : Nat) (a b o : Value) (ls : List Nat) : Res :=
  starR (pt p 174 (codeC a b o ((fstTo ls 16).map nV) ((cnts ls).map nV))) (starR (row 3 1 a (ls.map nV)) (starR (row 3 1 b ((vals ls).map nV)) (row 3 1 o ((orderTo ls 16).map nV))))
def codeR (p : Nat) (ls : List Nat) : Res := exR fun (v : Value × Value × Value) => codeG p v.1 v.2.1 v.2.2 ls
theorem perm4 {a b c d : Res} {F : List Res} : (c :: d :: b :: a :: F).Perm (a :: b :: c :: d :: F) := by
  have h1 : ([c, d, b] ++ a :: F).Perm (a :: ([c, d, b] ++ F)) := List.perm_middle
  have h2 : ([c, d] ++ b :: F).Perm (b :: ([c, d] ++ F)) := List.perm_middle
  exact h1.trans (List.Perm.cons _ h2)
theorem St.code {B p : Nat} {ls : List Nat} {F : List Res} {h0 hp : Heap} (st : St B h0 hp (codeR p ls :: F)) : ∃ a b o, St B h0 hp (pt p 174 (codeC a b o ((fstTo ls 16).map nV) ((cnts ls).map nV)) :: Bn.row 3 1 a (ls.map nV) :: Bn.row 3 1 b ((vals ls).map nV) :: Bn.row 3 1 o ((orderTo ls 16).map nV) :: F) := by
  obtain ⟨⟨a, b, o⟩, st⟩ := St.ex.1 st
  have s1 := St.star.1 ((St.star.1 st).perm (List.Perm.swap _ _ _))
  have s2 := St.star.1 (s1.perm (List.Perm.swap _ _ _))
  exact ⟨a, b, o, s2.perm perm4⟩
theorem St.uncode {B p : Nat} {ls : List Nat} {F : List Res} {h0 hp : Heap} {a b o : Value} (st : St B h0 hp (pt p 174 (codeC a b o ((fstTo ls 16).map nV) ((cnts ls).map nV)) :: Bn.row 3 1 a (ls.map nV) :: Bn.row 3 1 b ((vals ls).map nV) :: Bn.row 3 1 o ((orderTo ls 16).map nV) :: F)) : St B h0 hp (codeR p ls :: F) := by
  have s2 := St.star.2 (st.perm perm4.symm)
  have s1 := St.star.2 (s2.perm (List.Perm.swap _ _ _))
  exact St.ex.2 ⟨(a, b, o), St.star.2 (s1.perm (List.Perm.swap _ _ _))⟩

theorem clone_spec {n c : Nat} {A : Addr} {vs : List Int} {h0 : Heap} (hr : Rd h0 (some A) (vs.map iV)) (hl : vs.length = n) (hn : n ≤ 17592186044416) :
    Ret Try.prog 138 [.slice (some A) n c] h0 fun v h' => St h0.size h0 h' [row 3 1 v (vs.map iV)] := by
  refine ret_of_X Try.func138 rfl rfl fun w0 hw0 => ?_
  simp only [argE, Nat.zero_add, Nat.reduceAdd]
  have st := St.start h0
  refine X_seq ?_
  refine X_reg ?_
  refine XR_a (op_assign rfl) rfl rfl ?_
  refine XR_nil ?_
  refine X_seq ?_
  refine X_seq ?_
  refine X_reg ?_
  refine XR_a (op_move rfl) rfl rfl ?_
  refine XR_a (op_slc_eql rfl rfl rfl) rfl rfl ?_
  refine XR_nil ?_
  refine X_else rfl ?_
  refine X_skip ?_
  refine X_seq ?_
  refine X_reg ?_
  refine XR_wa (opl_lit0 rfl) rfl rfl rfl ?_
  rintro v hp hnew
  replace st := st.new hnew
  refine XR_a (op_move rfl) rfl rfl ?_
  refine XR_wa (opl_append st 0 rfl (hr.ext st.low) (by simpa using hl) (one_iV _) (by simp; omega) rfl rfl rfl rfl rfl rfl rfl) rfl rfl rfl fun v hp st => ?_
  simp only [List.set_cons_zero, List.set_cons_succ] at st
  refine XR_a (op_assign rfl) rfl rfl ?_
  refine XR_nil ?_
  refine X_ret (.cons (.tmp rfl) .nil) ?_
  rw [List.nil_append] at st
  exact st

theorem fstTo_len (ls : List Nat) (n : Nat) : ((fstTo ls n).map nV).length = 16 := by simp [fstTo]
theorem cntTo_len (ls : List Nat) (n : Nat) : ((cntTo ls n).map nV).length = 16 := by simp [cntTo]
theorem cnts_len (ls : List Nat) : ((cnts ls).map nV).length = 16 := by simp [cnts]
theorem zeros_fst (ls : List Nat) : List.replicate 16 (iV 0) = (fstTo ls 1).map nV := by rw [fstTo_one, List.map_replicate]; rfl
theorem zeros_cnt (ls : List Nat) : List.replicate 16 (iV 0) = (cntTo ls 0).map nV := by rw [cntTo_zero, List.map_replicate]; rfl
theorem zeros_val (ls : List Nat) : List.replicate ls.length (iV 0) = ((List.range ls.length).map (valAt ls 1 0)).map nV := by rw [valAt_zero, List.map_replicate]; rfl

theorem build_spec {n c : Nat} {A : Option Addr} {ls : List Nat} {h0 : Heap} (hr : Rd h0 A (ls.map nV)) (hl : ls.length = n) (hok : lensOK ls) :
    Ret Try.prog 124 [.slice A n c] h0 fun v h' => ∃ p, v = .pointer (some ⟨p, 0, none⟩) ∧ St h0.size h0 h' [codeR p ls] := by
  obtain ⟨gA, oA, rfl, hcA⟩ := hr.at_ (by rw [List.length_map]; have := hok.1; omega)
  have hn : n ≤ 320 := by rw [← hl]; exact hok.2.1
  have hn1 : 1 ≤ n := by rw [← hl]; exact hok.1
  refine ret_of_X Try.func124 rfl rfl fun w0 hw0 => ?_
  simp only [argE, Nat.zero_add, Nat.reduceAdd]
  have st := St.start h0
  refine X_seq ?_
  refine X_reg ?_
  refine XR_a (op_assign rfl) rfl rfl ?_
  refine XR_nil ?_
  refine X_seq ?_
  refine X_draw_two (butAt [(1, .grow)]) [0, 2, 3] 1 [4, 5, 6, 7] 4 [1, 5, 6, 7] (by kernel_rfl) (by kernel_rfl) rfl rfl rfl ?_
  refine XR_a (op_move rfl) rfl rfl ?_
  refine XR_a (op_move rfl) rfl rfl ?_
  refine XR_a (op_len rfl rfl rfl) rfl rfl ?_
  refine XR_nil ?_
  refine X_alt (σ := Nat × Value × Value) (fun s => [(0, .slice (some ⟨gA, oA, none⟩) n c), (3, .pointer (some ⟨s.1, 0, none⟩))])
    (fun s hp => St h0.size h0 hp [pt s.1 174 (codeC s.2.1 s.2.2 (.slice none 0 0) (List.replicate 16 (iV 0)) (List.replicate 16 (iV 0))), row 3 1 s.2.1 (ls.map nV), row 3 1 s.2.2 (List.replicate n (iV 0))]) ?_ ?_ ?_
  · refine XR_ga (opl_call (clone_spec (vs := ls.map fun n : Nat => (n : Int)) (by rw [← nV_iV]; exact hr.ext st.low) (by simpa using hl) (by omega)) rfl (by kernel_rfl)) rfl rfl rfl (fun _ _ h => h.low) ?_
    rintro v1 hp st1
    replace st := st.join st1
    simp only [List.cons_append, List.nil_append] at st
    rw [← nV_iV] at st
    refine XR_ga (opl_mk (by omega) rfl rfl rfl) rfl rfl rfl (fun _ _ e => e.1) ?_
    rintro v hp hnew
    have st := st.new hnew
    obtain ⟨ga, na, ca, rfl, _, _, _, _⟩ := st.row0 1 rfl (by rw [List.length_map]; omega)
    obtain ⟨gb, nb, cb, rfl, hlb, _, _, _⟩ := st.row0 0 rfl (by rw [List.length_replicate]; omega)
    refine XR_a (op_build (ps := [(0, .slice (some ⟨ga, 0, none⟩) na ca), (1, .slice (some ⟨gb, 0, none⟩) nb cb)]) (cs := (codeC (.slice (some ⟨ga, 0, none⟩) na ca) (.slice (some ⟨gb, 0, none⟩) nb cb) (.slice none 0 0) (List.replicate 16 (iV 0)) (List.replicate 16 (iV 0))).toArray) rfl rfl) rfl rfl ?_
    refine XR_ga (opl_bx rfl rfl) rfl rfl rfl (fun _ _ ⟨_, _, e⟩ => e.1) ?_
    rintro _ hp ⟨p, rfl, hnew⟩
    have st := st.new hnew
    refine XR_a (op_assign rfl) rfl rfl ?_
    refine XR_nil ?_
    replace st := st.re 3 [0, 2, 1] (by decide)
    exact X_meet (p, (.slice (some ⟨ga, 0, none⟩) na ca), (.slice (some ⟨gb, 0, none⟩) nb cb)) (.cons rfl (.cons rfl (.nil _))) st
  · refine XR_ga (opl_mk (by omega) rfl rfl rfl) rfl rfl rfl (fun _ _ e => e.1) ?_
    rintro v hp hnew
    have st := st.new hnew
    refine XR_ga (opl_call (clone_spec (vs := ls.map fun n : Nat => (n : Int)) (by rw [← nV_iV]; exact hr.ext st.low) (by simpa using hl) (by omega)) rfl (by kernel_rfl)) rfl rfl rfl (fun _ _ h => h.low) ?_
    rintro v1 hp st1
    replace st := st.join st1
    simp only [List.cons_append, List.nil_append] at st
    rw [← nV_iV] at st
    obtain ⟨ga, na, ca, rfl, _, _, _, _⟩ := st.row0 0 rfl (by rw [List.length_map]; omega)
    obtain ⟨gb, nb, cb, rfl, hlb, _, _, _⟩ := st.row0 1 rfl (by rw [List.length_replicate]; omega)
    refine XR_a (op_build (ps := [(0, .slice (some ⟨ga, 0, none⟩) na ca), (1, .slice (some ⟨gb, 0, none⟩) nb cb)]) (cs := (codeC (.slice (some ⟨ga, 0, none⟩) na ca) (.slice (some ⟨gb, 0, none⟩) nb cb) (.slice none 0 0) (List.replicate 16 (iV 0)) (List.replicate 16 (iV 0))).toArray) rfl rfl) rfl rfl ?_
    refine XR_ga (opl_bx rfl rfl) rfl rfl rfl (fun _ _ ⟨_, _, e⟩ => e.1) ?_
    rintro _ hp ⟨p, rfl, hnew⟩
    have st := st.new hnew
    refine XR_a (op_assign rfl) rfl rfl ?_
    refine XR_nil ?_
    exact X_meet (p, (.slice (some ⟨ga, 0, none⟩) na ca), (.slice (some ⟨gb, 0, none⟩) nb cb)) (.cons rfl (.cons rfl (.nil _))) st
  rintro ⟨p, va, vb⟩ hp st
  simp only at st ⊢
  obtain ⟨ga, na, ca, rfl, _, _, _, _⟩ := st.row0 1 rfl (by rw [List.length_map]; omega)
  obtain ⟨gb, nb, cb, rfl, hlb, _, _, _⟩ := st.row0 2 rfl (by rw [List.length_replicate]; omega)
  obtain rfl : nb = n := by rw [List.length_replicate] at hlb; omega
  refine X_seq ?_
  refine X_seq ?_
  refine X_reg ?_
  refine XR_a (op_move rfl) rfl rfl ?_
  refine XR_a (op_len rfl rfl rfl) rfl rfl ?_
  refine XR_a (op_move rfl) rfl rfl ?_
  refine XR_nil ?_
  refine X_block ?_
  have st := st.nilrow 3 1
  replace st := st.re 4 [1, 2, 3, 0] (by decide)
  simp only [List.map_cons, List.map_nil, getR] at st
  rw [show List.replicate nb (iV 0) = List.replicate ls.length (iV 0) by rw [hl], zeros_val] at st
  have hcell : ∀ x : Value × Value, codeC x.1 x.2 (.slice none 0 0) (List.replicate 16 (iV 0)) (List.replicate 16 (iV 0)) = codeC x.1 x.2 (.slice none 0 0) ((fstTo ls 1).map nV) ((cntTo ls 0).map nV) := fun x => by rw [← zeros_fst, ← zeros_cnt]
  have hcell := hcell (.slice (some ⟨ga, 0, none⟩) na ca, .slice (some ⟨gb, 0, none⟩) nb cb)
  simp only at hcell
  rw [hcell] at st
  refine X_loop (fun i => nb - i) (fun i => [(0, .slice (some ⟨gA, oA, none⟩) nb c), (3, .pointer (some ⟨p, 0, none⟩)), (18, .slice (some ⟨gA, oA, none⟩) nb c), (19, .int .i64 (nb : Int)), (20, .int .i64 (i : Int))])
    (fun (i : Nat) hp => St h0.size h0 hp [pt p 174 (codeC (.slice (some ⟨ga, 0, none⟩) na ca) (.slice (some ⟨gb, 0, none⟩) nb cb) (.slice none 0 0) ((fstTo ls 1).map nV) ((cntTo ls i).map nV)), row 3 1 (.slice (some ⟨ga, 0, none⟩) na ca) (ls.map nV), row 3 1 (.slice (some ⟨gb, 0, none⟩) nb cb) (((List.range ls.length).map (valAt ls 1 0)).map nV), row 3 1 (.slice none 0 0) []] ∧ i ≤ nb)
    0 (.cons rfl (.cons rfl (.cons rfl (.cons rfl (.cons rfl (.nil _)))))) ⟨st, by omega⟩ ?_
  clear st hcell hlb
  rintro i hp ⟨st, hi⟩
  refine X_seq ?_
  refine X_reg ?_
  refine XR_a (op_lss rfl rfl) rfl rfl ?_
  refine XR_nil ?_
  refine X_seq ?_
  refine X_if rfl (fun h => ?_) (fun h => ?_)
  · have hin : i < ls.length := by omega
    have hci := hcA i (nV ls[i]) (by simp [hin])
    have hx15 := hok.2.2.1 ls[i] (List.getElem_mem hin)
    obtain ⟨x, hx⟩ : ∃ x, ls[i] = x := ⟨_, rfl⟩
    rw [hx] at hci hx15
    have hcx : (cntTo ls i)[x]? = some ((ls.take i).count x) := by simp [cntTo, show x < 16 by omega]
    have hcle : (ls.take i).count x ≤ 320 := Nat.le_trans List.count_le_length (by rw [List.length_take]; omega)
    refine X_skip ?_
    refine X_seq ?_
    refine X_block ?_
    refine X_seq ?_
    refine X_reg ?_
    first | refine XR_a (op_index1 rfl rfl rfl (by omega)) rfl rfl ?_ | refine XR_a (op_index rfl rfl rfl (by omega)) rfl rfl ?_
    refine XR_a (op_ld ((cellH_ext (a := ⟨gA, oA + i, none⟩) st.low hci)) rfl rfl rfl) rfl rfl ?_
    refine XR_a (op_assign rfl) rfl rfl ?_
    refine XR_nil ?_
    refine X_draw byKind (by kernel_rfl) (by kernel_rfl) ?_
    refine XR_a (op_move rfl) rfl rfl ?_
    refine XR_a (op_move rfl) rfl rfl ?_
    refine XR_a (op_nilCheck rfl) rfl rfl ?_
    first | refine XR_a (op_field0 rfl rfl) rfl rfl ?_ | refine XR_a (op_fieldn rfl rfl) rfl rfl ?_
    first | refine XR_a (op_indexA1 rfl rfl rfl (by omega)) rfl rfl ?_ | refine XR_a (op_indexO rfl rfl rfl (by omega)) rfl rfl ?_ | refine XR_a (op_indexA rfl rfl rfl (by omega)) rfl rfl ?_
    refine XR_a (op_ld (st.cell 0 (i := 18 + x) rfl ((codeC_m (fstTo_len _ _) (by rw [cntTo_len]; omega)).trans (map_get_nV hcx))) rfl rfl rfl) rfl rfl ?_
    first | refine XR_a (op_addN (n := 1) rfl rfl (by simp only [inK]; omega)) rfl rfl ?_ | refine XR_a (op_addI rfl rfl (by simp only [inK]; omega)) rfl rfl ?_ | refine XR_a (op_add rfl rfl) rfl rfl ?_
    refine XR_a (op_nilCheck rfl) rfl rfl ?_
    first | refine XR_a (op_field0 rfl rfl) rfl rfl ?_ | refine XR_a (op_fieldn rfl rfl) rfl rfl ?_
    first | refine XR_a (op_indexA1 rfl rfl rfl (by omega)) rfl rfl ?_ | refine XR_a (op_indexO rfl rfl rfl (by omega)) rfl rfl ?_ | refine XR_a (op_indexA rfl rfl rfl (by omega)) rfl rfl ?_
    refine XR_wn (opl_store_pt (i := 18 + x) (v := nV ((ls.take i).count x + 1)) st 0 rfl rfl rfl (by rw [codeC_len (fstTo_len _ _) (cntTo_len _ _)]; simp [Nat.blt_eq]; omega) rfl rfl) rfl rfl fun _ hp st => ?_
    simp only [List.set_cons_zero, List.set_cons_succ] at st
    rw [codeC_setm (fstTo_len _ _) (by rw [cntTo_len]; omega), map_set_nV, cntTo_set hin hx] at st
    refine XR_nil ?_
    refine X_blk ?_
    refine X_reg ?_
    first | refine XR_a (op_addN (n := 1) rfl rfl (by simp only [inK]; omega)) rfl rfl ?_ | refine XR_a (op_addI rfl rfl (by simp only [inK]; omega)) rfl rfl ?_ | refine XR_a (op_add rfl rfl) rfl rfl ?_
    refine XR_a (op_move rfl) rfl rfl ?_
    refine XR_nil ?_
    exact X_again (i + 1) (.cons rfl (.cons rfl (.cons rfl (.cons rfl (.cons rfl (.nil _)))))) ⟨st, by omega⟩ (by omega)
  · obtain rfl : i = nb := by omega
    refine X_exit rfl ?_
    refine X_seq ?_
    refine X_reg ?_
    refine XR_a (op_move rfl) rfl rfl ?_
    refine XR_a (op_nilCheck rfl) rfl rfl ?_
    first | refine XR_a (op_field0 rfl rfl) rfl rfl ?_ | refine XR_a (op_fieldn rfl rfl) rfl rfl ?_
    refine XR_a (op_indexO (i := 0) rfl rfl rfl (by omega)) rfl rfl ?_
    refine XR_wn (opl_store_pt (i := 18 + 0) (v := nV 0) st 0 rfl rfl rfl (by rw [codeC_len (fstTo_len _ _) (cntTo_len _ _)]; rfl) rfl rfl) rfl rfl fun _ hp st => ?_
    simp only [List.set_cons_zero, List.set_cons_succ] at st
    have hcf : (cntTo ls i).set 0 0 = cnts ls := by rw [← hl]; exact cntTo_full ls
    rw [codeC_setm (fstTo_len _ _) (by rw [cntTo_len]; omega), map_set_nV, hcf] at st
    refine XR_nil ?_
    refine X_seq ?_
    refine X_reg ?_
    refine XR_a (op_assign rfl) rfl rfl ?_
    refine XR_nil ?_
    refine X_seq ?_
    refine X_seq ?_
    refine X_reg ?_
    refine XR_a (op_assign rfl) rfl rfl ?_
    refine XR_nil ?_
    refine X_block ?_
    refine X_loop (fun s => 16 - s.1) (fun s => [(0, .slice (some ⟨gA, oA, none⟩) i c), (3, .pointer (some ⟨p, 0, none⟩)), (6, .int .i64 ((fst ls (s.1 - 1) : Nat) : Int)), (7, .int .i64 (s.1 : Int))])
      (fun (s : Nat × Value) hp => St h0.size h0 hp [pt p 174 (codeC (.slice (some ⟨ga, 0, none⟩) na ca) (.slice (some ⟨gb, 0, none⟩) i cb) s.2 ((fstTo ls s.1).map nV) ((cnts ls).map nV)), row 3 1 (.slice (some ⟨ga, 0, none⟩) na ca) (ls.map nV), row 3 1 (.slice (some ⟨gb, 0, none⟩) i cb) (((List.range ls.length).map (valAt ls s.1 0)).map nV), row 3 1 s.2 ((orderTo ls s.1).map nV)] ∧ 1 ≤ s.1 ∧ s.1 ≤ 16)
      (1, .slice none 0 0) (.cons rfl (.cons rfl (.cons rfl (.cons rfl (.nil _))))) ⟨st, by simp, by simp⟩ ?_
    clear st
    rintro ⟨m, o⟩ hp ⟨st, hm1, hm16⟩
    simp only at st hm1 hm16 ⊢
    refine X_seq ?_
    refine X_seq ?_
    refine X_reg ?_
    refine XR_a (op_move rfl) rfl rfl ?_
    refine XR_a (op_leq rfl rfl) rfl rfl ?_
    refine XR_nil ?_
    refine X_if rfl (fun h => ?_) (fun h => ?_)
    · have hm15 : m ≤ 15 := by omega
      have hfb := fst_bd hok (n := m - 1) (by omega)
      have hfm : fst ls m = (fst ls (m - 1) + cn ls (m - 1)) * 2 := by
        obtain ⟨k, rfl⟩ : ∃ k, m = k + 1 := ⟨m - 1, by omega⟩
        rfl
      have hfbm := fst_bd hok hm15
      have hgm : (cnts ls)[m - 1]? = some (cn ls (m - 1)) := by simp [cnts, show m - 1 < 16 by omega]
      refine X_skip ?_
      refine X_seq ?_
      refine X_block ?_
      refine X_seq ?_
      refine X_reg ?_
      refine XR_a (op_move rfl) rfl rfl ?_
      refine XR_a (op_move rfl) rfl rfl ?_
      refine XR_a (op_move rfl) rfl rfl ?_
      refine XR_a (op_subN (m := m) (n := 1) rfl rfl (by omega) (by simp only [inK]; omega)) rfl rfl ?_
      refine XR_a (op_nilCheck rfl) rfl rfl ?_
      first | refine XR_a (op_field0 rfl rfl) rfl rfl ?_ | refine XR_a (op_fieldn rfl rfl) rfl rfl ?_
      first | refine XR_a (op_indexA1 rfl rfl rfl (by omega)) rfl rfl ?_ | refine XR_a (op_indexO rfl rfl rfl (by omega)) rfl rfl ?_ | refine XR_a (op_indexA rfl rfl rfl (by omega)) rfl rfl ?_
      refine XR_a (op_ld (st.cell 0 (i := 18 + (m - 1)) rfl ((codeC_m (fstTo_len _ _) (by rw [cnts_len]; omega)).trans (map_get_nV hgm))) rfl rfl rfl) rfl rfl ?_
      first | refine XR_a (op_addN rfl rfl (by simp only [inK]; omega)) rfl rfl ?_ | refine XR_a (op_addI rfl rfl (by simp only [inK]; omega)) rfl rfl ?_ | refine XR_a (op_add rfl rfl) rfl rfl ?_
      first | refine XR_a (op_mulN (n := 2) rfl rfl (by simp only [inK]; omega)) rfl rfl ?_ | refine XR_a (op_mulI rfl rfl (by simp only [inK]; omega)) rfl rfl ?_ | refine XR_a (op_mul rfl rfl) rfl rfl ?_
      refine XR_as (.int .i64 ((fst ls m : Nat) : Int)) (by rw [hfm]) ?_
      refine XR_a (op_assign rfl) rfl rfl ?_
      refine XR_nil ?_
      refine X_seq ?_
      refine X_reg ?_
      refine XR_a (op_move rfl) rfl rfl ?_
      refine XR_a (op_move rfl) rfl rfl ?_
      refine XR_a (op_move rfl) rfl rfl ?_
      refine XR_a (op_nilCheck rfl) rfl rfl ?_
      first | refine XR_a (op_field0 rfl rfl) rfl rfl ?_ | refine XR_a (op_fieldn rfl rfl) rfl rfl ?_
      first | refine XR_a (op_indexA1 rfl rfl rfl (by omega)) rfl rfl ?_ | refine XR_a (op_indexO rfl rfl rfl (by omega)) rfl rfl ?_ | refine XR_a (op_indexA rfl rfl rfl (by omega)) rfl rfl ?_
      refine XR_wn (opl_store_pt (i := 2 + m) (v := nV (fst ls m)) st 0 rfl rfl rfl (by rw [codeC_len (fstTo_len _ _) (cnts_len _)]; simp [Nat.blt_eq]; omega) rfl rfl) rfl rfl fun _ hp st => ?_
      simp only [List.set_cons_zero, List.set_cons_succ] at st
      rw [codeC_setf (by rw [fstTo_len]; omega), map_set_nV, fstTo_set (by omega)] at st
      refine XR_nil ?_
      refine X_seq ?_
      refine X_reg ?_
      refine XR_a (op_move rfl) rfl rfl ?_
      refine XR_a (op_assign rfl) rfl rfl ?_
      refine XR_nil ?_
      refine X_seq ?_
      refine X_reg ?_
      refine XR_a (op_move rfl) rfl rfl ?_
      refine XR_a (op_len rfl rfl rfl) rfl rfl ?_
      refine XR_a (op_move rfl) rfl rfl ?_
      refine XR_nil ?_
      refine X_block ?_
      refine X_loop (fun s => i - s.1) (fun s => [(0, .slice (some ⟨gA, oA, none⟩) i c), (3, .pointer (some ⟨p, 0, none⟩)), (6, .int .i64 ((fst ls m : Nat) : Int)), (7, .int .i64 (m : Int)), (8, .int .i64 ((fst ls m + (ls.take s.1).count m : Nat) : Int)), (60, .slice (some ⟨gA, oA, none⟩) i c), (61, .int .i64 (i : Int)), (62, .int .i64 (s.1 : Int))])
        (fun (s : Nat × Value) hp => St h0.size h0 hp [pt p 174 (codeC (.slice (some ⟨ga, 0, none⟩) na ca) (.slice (some ⟨gb, 0, none⟩) i cb) s.2 ((fstTo ls (m + 1)).map nV) ((cnts ls).map nV)), row 3 1 (.slice (some ⟨ga, 0, none⟩) na ca) (ls.map nV), row 3 1 (.slice (some ⟨gb, 0, none⟩) i cb) (((List.range ls.length).map (valAt ls m s.1)).map nV), row 3 1 s.2 ((orderTo ls m ++ ofLen ls m s.1).map nV)] ∧ s.1 ≤ i)
        (0, o) (.cons rfl (.cons rfl (.cons rfl (.cons rfl (.cons (congrArg (fun x : Nat => some (Value.int .i64 (x : Int))) (by simp)) (.cons rfl (.cons rfl (.cons rfl (.nil _))))))))) ⟨by simpa [ofLen] using st, by simp⟩ ?_
      clear st
      rintro ⟨s, o⟩ hp ⟨st, hs⟩
      simp only at st hs ⊢
      refine X_seq ?_
      refine X_reg ?_
      refine XR_a (op_lss rfl rfl) rfl rfl ?_
      refine XR_nil ?_
      refine X_seq ?_
      refine X_if rfl (fun h => ?_) (fun h => ?_)
      · have hsn : s < ls.length := by omega
        have hcs := hcA s (nV ls[s]) (by simp [hsn])
        have hcnt := count_take_succ hsn m
        have hcc : (ls.take s).count m ≤ 320 := Nat.le_trans List.count_le_length (by rw [List.length_take]; omega)
        have hol : (orderTo ls m ++ ofLen ls m s).length ≤ 1000000 := by
          rw [List.length_append, ofLen_length ls m s (by omega)]
          obtain ⟨k, rfl⟩ : ∃ k, m = k + 1 := ⟨m - 1, by omega⟩
          have := orderTo_le ls k
          have := Nat.mul_le_mul_right ls.length (show k ≤ 15 by omega)
          omega
        refine X_skip ?_
        refine X_seq ?_
        refine X_block ?_
        refine X_seq ?_
        refine X_reg ?_
        refine XR_a (op_move rfl) rfl rfl ?_
        first | refine XR_a (op_index1 rfl rfl rfl (by omega)) rfl rfl ?_ | refine XR_a (op_index rfl rfl rfl (by omega)) rfl rfl ?_
        refine XR_a (op_ld ((cellH_ext (a := ⟨gA, oA + s, none⟩) st.low hcs)) rfl rfl rfl) rfl rfl ?_
        refine XR_a (op_assign rfl) rfl rfl ?_
        refine XR_a (op_assign rfl) rfl rfl ?_
        refine XR_nil ?_
        refine X_seq ?_
        refine X_reg ?_
        refine XR_a (op_move rfl) rfl rfl ?_
        refine XR_a (op_move rfl) rfl rfl ?_
        refine XR_a (op_eql rfl rfl) rfl rfl ?_
        refine XR_nil ?_
        refine X_if rfl (fun h => ?_) (fun h => ?_)
        · have hsm : ls[s] = m := by omega
          rw [if_pos hsm] at hcnt
          have hset := valAt_set hsn hsm (by omega)
          refine X_seq ?_
          refine X_reg ?_
          refine XR_a (op_move rfl) rfl rfl ?_
          refine XR_a (op_nilCheck rfl) rfl rfl ?_
          first | refine XR_a (op_field0 rfl rfl) rfl rfl ?_ | refine XR_a (op_fieldn rfl rfl) rfl rfl ?_
          refine XR_a (op_ld (st.cell 0 (i := 1) rfl rfl) rfl rfl rfl) rfl rfl ?_
          refine XR_a (op_move rfl) rfl rfl ?_
          refine XR_a (op_move rfl) rfl rfl ?_
          first | refine XR_a (op_index1 rfl rfl rfl (by omega)) rfl rfl ?_ | refine XR_a (op_index rfl rfl rfl (by omega)) rfl rfl ?_
          refine XR_wn (opl_store_row (o := 0) (i := s) (v := nV (fst ls m + (ls.take s).count m)) st 2 rfl (congrArg (fun x => some (Value.pointer (some ⟨gb, x, none⟩))) (by omega)) rfl (by simp; omega) rfl rfl) rfl rfl fun _ hp st => ?_
          simp only [List.set_cons_zero, List.set_cons_succ] at st
          rw [map_set_nV, hset] at st
          refine XR_nil ?_
          refine X_seq ?_
          refine X_reg ?_
          refine XR_a (op_move rfl) rfl rfl ?_
          refine XR_a (op_move rfl) rfl rfl ?_
          refine XR_a (op_nilCheck rfl) rfl rfl ?_
          first | refine XR_a (op_field0 rfl rfl) rfl rfl ?_ | refine XR_a (op_fieldn rfl rfl) rfl rfl ?_
          refine XR_a (op_ld (st.cell 0 (i := 34) rfl (codeC_o (fstTo_len _ _) (cnts_len _))) rfl rfl rfl) rfl rfl ?_
          refine XR_a (op_move rfl) rfl rfl ?_
          refine XR_wa (opl_lit1 rfl rfl rfl) rfl rfl rfl ?_
          rintro v hp hnew
          have hrv := hnew
          obtain ⟨A2, n2, c2, rfl, hlen2, _, _, hrd2⟩ := ((St.start _).new hnew).row 0 rfl
          replace st := st.ext hnew.1
          refine XR_wa (opl_append st 3 rfl (hrd2) (hlen2) (by intro u hu; simp at hu; subst hu; rfl) (by simp at hol ⊢; omega) rfl rfl rfl rfl rfl rfl rfl) rfl rfl rfl fun v hp st => ?_
          simp only [List.set_cons_zero, List.set_cons_succ] at st
          obtain ⟨A3, n3, c3, rfl, _, _, _, _⟩ := st.row 3 rfl
          refine XR_a (op_nilCheck rfl) rfl rfl ?_
          first | refine XR_a (op_field0 rfl rfl) rfl rfl ?_ | refine XR_a (op_fieldn rfl rfl) rfl rfl ?_
          refine XR_wn (opl_store_pt (i := 34) st 0 rfl rfl rfl (by rw [codeC_len (fstTo_len _ _) (cnts_len _)]; rfl) rfl rfl) rfl rfl fun _ hp st => ?_
          simp only [List.set_cons_zero, List.set_cons_succ] at st
          rw [codeC_seto (fstTo_len _ _) (cnts_len _), show [Value.int IntKind.i64 (s : Int)] = ([s] : List Nat).map nV from rfl, ← List.map_append, List.append_assoc] at st
          refine XR_nil ?_
          refine X_reg ?_
          refine XR_a (op_move rfl) rfl rfl ?_
          first | refine XR_a (op_addN (n := 1) rfl rfl (by simp only [inK]; omega)) rfl rfl ?_ | refine XR_a (op_addI rfl rfl (by simp only [inK]; omega)) rfl rfl ?_ | refine XR_a (op_add rfl rfl) rfl rfl ?_
          refine XR_a (op_assign rfl) rfl rfl ?_
          refine XR_nil ?_
          refine X_blk ?_
          refine X_reg ?_
          first | refine XR_a (op_addN (n := 1) rfl rfl (by simp only [inK]; omega)) rfl rfl ?_ | refine XR_a (op_addI rfl rfl (by simp only [inK]; omega)) rfl rfl ?_ | refine XR_a (op_add rfl rfl) rfl rfl ?_
          refine XR_a (op_move rfl) rfl rfl ?_
          refine XR_nil ?_
          have hof := ofLen_succ (n := m) hsn
          rw [if_pos hsm] at hof
          rw [← hof] at st
          exact X_again (s + 1, _) (.cons rfl (.cons rfl (.cons rfl (.cons rfl (.cons (by rw [hcnt, ← Nat.add_assoc]; rfl) (.cons rfl (.cons rfl (.cons rfl (.nil _))))))))) ⟨st, by simp only; omega⟩ (by simp only; omega)
        · refine X_skip ?_
          refine X_blk ?_
          refine X_reg ?_
          first | refine XR_a (op_addN (n := 1) rfl rfl (by simp only [inK]; omega)) rfl rfl ?_ | refine XR_a (op_addI rfl rfl (by simp only [inK]; omega)) rfl rfl ?_ | refine XR_a (op_add rfl rfl) rfl rfl ?_
          refine XR_a (op_move rfl) rfl rfl ?_
          refine XR_nil ?_
          have hsm : ls[s] ≠ m := by omega
          have hof := ofLen_succ (n := m) hsn
          rw [if_neg hsm, List.append_nil] at hof
          rw [if_neg hsm, Nat.add_zero] at hcnt
          rw [← hof, valAt_skip hsn hsm] at st
          exact X_again (s + 1, o) (.cons rfl (.cons rfl (.cons rfl (.cons rfl (.cons (by rw [hcnt]; rfl) (.cons rfl (.cons rfl (.cons rfl (.nil _))))))))) ⟨st, by simp only; omega⟩ (by simp only; omega)
      · obtain rfl : s = i := by omega
        rw [show (valAt ls m s) = valAt ls m ls.length by rw [hl], valAt_next ls m (by omega), show ofLen ls m s = ofLen ls m ls.length by rw [hl], ← orderTo_succ ls hm1] at st
        refine X_exit rfl ?_
        refine X_blk ?_
        refine X_reg ?_
        refine XR_a (op_move rfl) rfl rfl ?_
        first | refine XR_a (op_addN (n := 1) rfl rfl (by simp only [inK]; omega)) rfl rfl ?_ | refine XR_a (op_addI rfl rfl (by simp only [inK]; omega)) rfl rfl ?_ | refine XR_a (op_add rfl rfl) rfl rfl ?_
        refine XR_a (op_assign rfl) rfl rfl ?_
        refine XR_nil ?_
        exact X_again (m + 1, o) (.cons rfl (.cons rfl (.cons rfl (.cons rfl (.nil _))))) ⟨st, by simp only; omega, by simp only; omega⟩ (by simp only; omega)
    · obtain rfl : m = 16 := by omega
      rw [valAt_full ls hok.2.2.1] at st
      refine X_exit rfl ?_
      refine X_seq ?_
      refine X_reg ?_
      refine XR_a (op_move rfl) rfl rfl ?_
      refine XR_a (op_assign rfl) rfl rfl ?_
      refine XR_nil ?_
      refine X_ret (.cons (.tmp rfl) .nil) ?_
      exact ⟨p, rfl, st.uncode⟩
end Go.Bn
