/- Packed texts of a claim: what its theorem uses, joined. -/
import Derived.Test.YtoodeecmplpndaaProg
import Derived.Test.YtoodeecmplpndaaPkS7x3
section
set_option linter.unusedVariables false
set_option linter.unusedSimpArgs false
set_option maxHeartbeats 4000000
set_option maxRecDepth 20000
namespace Go.Bn
open Go Proofs
def codeC (a b o : Value) (f m : List Value) : List Value := a :: b :: (f ++ (m ++ [o]))
theorem codeC_len {a b o : Value} {f m : List Value} (hf : f.length = 16) (hm : m.length = 16) : (codeC a b o f m).length = 35 := by simp [codeC, hf, hm]
theorem codeC_f {a b o : Value} {f m : List Value} {x : Nat} (h : x < f.length) : (codeC a b o f m)[2 + x]? = f[x]? := by
 simp only [codeC, Nat.add_comm 2 x, List.getElem?_cons_succ]
 rw [List.getElem?_append_left h]
theorem codeC_m {a b o : Value} {f m : List Value} {x : Nat} (hf : f.length = 16) (h : x < m.length) : (codeC a b o f m)[18 + x]? = m[x]? := by
 rw [show 18 + x = (16 + x) + 2 by omega]
 simp only [codeC, List.getElem?_cons_succ]
 rw [List.getElem?_append_right (by omega), hf, Nat.add_sub_cancel_left, List.getElem?_append_left h]
theorem codeC_o {a b o : Value} {f m : List Value} (hf : f.length = 16) (hm : m.length = 16) : (codeC a b o f m)[34]? = some o := by
 simp only [codeC, List.getElem?_cons_succ]
 rw [List.getElem?_append_right (by omega), hf, List.getElem?_append_right (by omega), hm]; rfl
theorem codeC_setf {a b o v : Value} {f m : List Value} {x : Nat} (h : x < f.length) : (codeC a b o f m).set (2 + x) v = codeC a b o (f.set x v) m := by
 simp only [codeC, Nat.add_comm 2 x, List.set_cons_succ]
 rw [List.set_append_left _ _ h]
theorem codeC_setm {a b o v : Value} {f m : List Value} {x : Nat} (hf : f.length = 16) (h : x < m.length) : (codeC a b o f m).set (18 + x) v = codeC a b o f (m.set x v) := by
 rw [show 18 + x = (16 + x) + 2 by omega]
 simp only [codeC, List.set_cons_succ]
 rw [List.set_append_right _ _ (by omega), hf, Nat.add_sub_cancel_left, List.set_append_left _ _ h]
theorem codeC_seto {a b o v : Value} {f m : List Value} (hf : f.length = 16) (hm : m.length = 16) : (codeC a b o f m).set 34 v = codeC a b v f m := by
 simp only [codeC, List.set_cons_succ]
 rw [List.set_append_right _ _ (by omega), hf, List.set_append_right _ _ (by omega), hm]; rfl
theorem map_set_nV (l : List Nat) (i x : Nat) : (l.map nV).set i (nV x) = (l.set i x).map nV := by rw [List.map_set]
theorem map_get_nV {l : List Nat} {i x : Nat} (h : l[i]? = some x) : (l.map nV)[i]? = some (nV x) := by rw [List.getElem?_map, h]; rfl
@[reducible] def codeG (p : Nat) (a b o : Value) (ls : List Nat) : Res :=
  starR (pt p 122 (codeC a b o ((fstTo ls 16).map nV) ((cnts ls).map nV))) (starR (row 3 1 a (ls.map nV)) (starR (row 3 1 b ((vals ls).map nV)) (row 3 1 o ((orderTo ls 16).map nV))))
def codeR (p : Nat) (ls : List Nat) : Res := exR fun (v : Value × Value × Value) => codeG p v.1 v.2.1 v.2.2 ls
theorem perm4 {a b c d : Res} {F : List Res} : (c :: d :: b :: a :: F).Perm (a :: b :: c :: d :: F) := by
 have h1 : ([c, d, b] ++ a :: F).Perm (a :: ([c, d, b] ++ F)) := List.perm_middle
 have h2 : ([c, d] ++ b :: F).Perm (b :: ([c, d] ++ F)) := List.perm_middle
 exact h1.trans (List.Perm.cons _ h2)
theorem St.code {B p : Nat} {ls : List Nat} {F : List Res} {h0 hp : Heap} (st : St B h0 hp (codeR p ls :: F)) : ∃ a b o, St B h0 hp (pt p 122 (codeC a b o ((fstTo ls 16).map nV) ((cnts ls).map nV)) :: Bn.row 3 1 a (ls.map nV) :: Bn.row 3 1 b ((vals ls).map nV) :: Bn.row 3 1 o ((orderTo ls 16).map nV) :: F) := by
 obtain ⟨⟨a, b, o⟩, st⟩ := St.ex.1 st
 have s1 := St.star.1 ((St.star.1 st).perm (List.Perm.swap _ _ _))
 have s2 := St.star.1 (s1.perm (List.Perm.swap _ _ _))
 exact ⟨a, b, o, s2.perm perm4⟩
theorem St.uncode {B p : Nat} {ls : List Nat} {F : List Res} {h0 hp : Heap} {a b o : Value} (st : St B h0 hp (pt p 122 (codeC a b o ((fstTo ls 16).map nV) ((cnts ls).map nV)) :: Bn.row 3 1 a (ls.map nV) :: Bn.row 3 1 b ((vals ls).map nV) :: Bn.row 3 1 o ((orderTo ls 16).map nV) :: F)) : St B h0 hp (codeR p ls :: F) := by
 have s2 := St.star.2 (st.perm perm4.symm)
 have s1 := St.star.2 (s2.perm (List.Perm.swap _ _ _))
 exact St.ex.2 ⟨(a, b, o), St.star.2 (s1.perm (List.Perm.swap _ _ _))⟩
theorem clone_spec {n c : Nat} {A : Addr} {vs : List Int} {h0 : Heap} (hr : Rd h0 (some A) (vs.map iV)) (hl : vs.length = n) (hn : n ≤ 17592186044416) :
  Ret Try.prog 116 [.slice (some A) n c] h0 fun v h' => St h0.size h0 h' [row 3 1 v (vs.map iV)] := by
 refine ret_of_X Try.func116 rfl rfl fun w0 hw0 => ?_
 simp only [argE, Nat.zero_add, Nat.reduceAdd]
 have st := St.start h0
 refine X_seq (X_reg (XA rfl rfl rfl (XR_nil (X_seq (X_seq (X_reg (XV rfl rfl rfl ?_)))))))
 refine XR_a (op_slc_eql rfl rfl rfl) rfl rfl ?_
 refine XR_nil (X_else rfl (X_skip (X_seq (X_reg ?_))))
 refine XR_wa (opl_lit0 rfl) rfl rfl rfl ?_
 rintro v hp hnew
 replace st := st.new hnew
 refine XV rfl rfl rfl ?_
 refine XR_wa (opl_append st 0 rfl (hr.ext st.low) (by simpa using hl) (one_iV _) (by simp; omega) rfl rfl rfl rfl rfl rfl rfl) rfl rfl rfl fun v hp st => ?_
 simp only [List.set_cons_zero, List.set_cons_succ] at st
 refine XA rfl rfl rfl (XR_nil ?_)
 refine X_ret (.cons (.tmp rfl) .nil) ?_
 rw [List.nil_append] at st
 exact st
theorem fstTo_len (ls : List Nat) (n : Nat) : ((fstTo ls n).map nV).length = 16 := by simp [fstTo]
theorem cntTo_len (ls : List Nat) (n : Nat) : ((cntTo ls n).map nV).length = 16 := by simp [cntTo]
theorem cnts_len (ls : List Nat) : ((cnts ls).map nV).length = 16 := by simp [cnts]
theorem zeros_fst (ls : List Nat) : List.replicate 16 (iV 0) = (fstTo ls 1).map nV := by rw [fstTo_one, List.map_replicate]; rfl
theorem zeros_cnt (ls : List Nat) : List.replicate 16 (iV 0) = (cntTo ls 0).map nV := by rw [cntTo_zero, List.map_replicate]; rfl
theorem zeros_val (ls : List Nat) : List.replicate ls.length (iV 0) = ((List.range ls.length).map (valAt ls 1 0)).map nV := by rw [valAt_zero, List.map_replicate]; rfl
theorem build_spec {n c : Nat} {A : Option Addr} {ls : List Nat} {h0 : Heap} (hr : Rd h0 A (ls.map nV)) (hl : ls.length = n) (hok : lensOK ls) :
  Ret Try.prog 86 [.slice A n c] h0 fun v h' => ∃ p, v = .pointer (some ⟨p, 0, none⟩) ∧ St h0.size h0 h' [codeR p ls] := by
 obtain ⟨gA, oA, rfl, hcA⟩ := hr.at_ (by rw [List.length_map]; have := hok.1; omega)
 have hn : n ≤ 320 := by rw [← hl]; exact hok.2.1
 have hn1 : 1 ≤ n := by rw [← hl]; exact hok.1
 refine ret_of_X Try.func86 rfl rfl fun w0 hw0 => ?_
 simp only [argE, Nat.zero_add, Nat.reduceAdd]
 have st := St.start h0
 refine X_seq (X_reg (XA rfl rfl rfl (XR_nil (X_seq ?_))))
 refine X_draw_two (butAt [(1, .grow)]) [0, 2, 3] 1 [4, 5, 6, 7] 4 [1, 5, 6, 7] (by kernel_rfl) (by kernel_rfl) rfl rfl rfl ?_
 refine XV rfl rfl rfl (XV rfl rfl rfl ?_)
 refine XR_a (op_len rfl rfl rfl) rfl rfl ?_
 refine XR_nil ?_
 refine X_alt (σ := Nat × Value × Value) (fun s => [(0, .slice (some ⟨gA, oA, none⟩) n c), (3, .pointer (some ⟨s.1, 0, none⟩))])
  (fun s hp => St h0.size h0 hp [pt s.1 122 (codeC s.2.1 s.2.2 (.slice none 0 0) (List.replicate 16 (iV 0)) (List.replicate 16 (iV 0))), row 3 1 s.2.1 (ls.map nV), row 3 1 s.2.2 (List.replicate n (iV 0))]) ?_ ?_ ?_
 ·refine XR_ga (opl_call (clone_spec (vs := ls.map fun n : Nat => (n : Int)) (by rw [← nV_iV]; exact hr.ext st.low) (by simpa using hl) (by omega)) rfl (by kernel_rfl)) rfl rfl rfl (fun _ _ h => h.low) ?_
  rintro v1 hp st1
  replace st := st.join st1
  simp only [List.cons_append, List.nil_append] at st
  rw [← nV_iV] at st
  refine XR_ga (opl_mk (by omega) rfl rfl rfl) rfl rfl rfl (fun _ _ e => e.1) ?_
  rintro v hp hnew
  have st := st.new hnew
  obtain ⟨ga, na, ca, rfl, _, _, _, _⟩ := st.row0 1 rfl (by rw [List.length_map]; omega)
  obtain ⟨gb, nb, cb, rfl, hlb, _, _, _⟩ := st.row0 0 rfl (by rw [List.length_replicate]; omega)
  refine XR_a (op_build (ps := [(0, .slice (some ⟨ga, 0, none⟩) na ca), (1, .slice (some ⟨gb, 0, none⟩) nb cb)]) (cs := (codeC (.slice (some ⟨ga, 0, none⟩) na ca) (.slice (some ⟨gb, 0, none⟩) nb cb) (.slice none 0 0) (List.replicate 16 (iV 0)) (List.replicate 16 (iV 0))).toArray) rfl rfl) rfl rfl ?_
  refine XR_ga (opl_bx rfl rfl) rfl rfl rfl (fun _ _ ⟨_, _, e⟩ => e.1) ?_
  rintro _ hp ⟨p, rfl, hnew⟩
  have st := st.new hnew
  refine XA rfl rfl rfl (XR_nil ?_)
  replace st := st.re 3 [0, 2, 1] (by decide)
  exact X_meet (p, (.slice (some ⟨ga, 0, none⟩) na ca), (.slice (some ⟨gb, 0, none⟩) nb cb)) (.cons rfl (.cons rfl (.nil _))) st
 ·refine XR_ga (opl_mk (by omega) rfl rfl rfl) rfl rfl rfl (fun _ _ e => e.1) ?_
  rintro v hp hnew
  have st := st.new hnew
  refine XR_ga (opl_call (clone_spec (vs := ls.map fun n : Nat => (n : Int)) (by rw [← nV_iV]; exact hr.ext st.low) (by simpa using hl) (by omega)) rfl (by kernel_rfl)) rfl rfl rfl (fun _ _ h => h.low) ?_
  rintro v1 hp st1
  replace st := st.join st1
  simp only [List.cons_append, List.nil_append] at st
  rw [← nV_iV] at st
  obtain ⟨ga, na, ca, rfl, _, _, _, _⟩ := st.row0 0 rfl (by rw [List.length_map]; omega)
  obtain ⟨gb, nb, cb, rfl, hlb, _, _, _⟩ := st.row0 1 rfl (by rw [List.length_replicate]; omega)
  refine XR_a (op_build (ps := [(0, .slice (some ⟨ga, 0, none⟩) na ca), (1, .slice (some ⟨gb, 0, none⟩) nb cb)]) (cs := (codeC (.slice (some ⟨ga, 0, none⟩) na ca) (.slice (some ⟨gb, 0, none⟩) nb cb) (.slice none 0 0) (List.replicate 16 (iV 0)) (List.replicate 16 (iV 0))).toArray) rfl rfl) rfl rfl ?_
  refine XR_ga (opl_bx rfl rfl) rfl rfl rfl (fun _ _ ⟨_, _, e⟩ => e.1) ?_
  rintro _ hp ⟨p, rfl, hnew⟩
  have st := st.new hnew
  refine XA rfl rfl rfl (XR_nil ?_)
  exact X_meet (p, (.slice (some ⟨ga, 0, none⟩) na ca), (.slice (some ⟨gb, 0, none⟩) nb cb)) (.cons rfl (.cons rfl (.nil _))) st
 rintro ⟨p, va, vb⟩ hp st
 simp only at st ⊢
 obtain ⟨ga, na, ca, rfl, _, _, _, _⟩ := st.row0 1 rfl (by rw [List.length_map]; omega)
 obtain ⟨gb, nb, cb, rfl, hlb, _, _, _⟩ := st.row0 2 rfl (by rw [List.length_replicate]; omega)
 obtain rfl : nb = n := by rw [List.length_replicate] at hlb; omega
 refine X_seq (X_seq (X_reg (XV rfl rfl rfl ?_)))
 refine XR_a (op_len rfl rfl rfl) rfl rfl ?_
 refine XV rfl rfl rfl (XR_nil (X_block ?_))
 have st := st.nilrow 3 1
 replace st := st.re 4 [1, 2, 3, 0] (by decide)
 simp only [List.map_cons, List.map_nil, getR] at st
 rw [show List.replicate nb (iV 0) = List.replicate ls.length (iV 0) by rw [hl], zeros_val] at st
 have hcell : ∀ x : Value × Value, codeC x.1 x.2 (.slice none 0 0) (List.replicate 16 (iV 0)) (List.replicate 16 (iV 0)) = codeC x.1 x.2 (.slice none 0 0) ((fstTo ls 1).map nV) ((cntTo ls 0).map nV) := fun x => by rw [← zeros_fst, ← zeros_cnt]
 have hcell := hcell (.slice (some ⟨ga, 0, none⟩) na ca, .slice (some ⟨gb, 0, none⟩) nb cb)
 simp only at hcell
 rw [hcell] at st
 refine X_loop (fun i => nb - i) (fun i => [(0, .slice (some ⟨gA, oA, none⟩) nb c), (3, .pointer (some ⟨p, 0, none⟩)), (18, .slice (some ⟨gA, oA, none⟩) nb c), (19, .int .i64 (nb : Int)), (20, .int .i64 (i : Int))])
  (fun (i : Nat) hp => St h0.size h0 hp [pt p 122 (codeC (.slice (some ⟨ga, 0, none⟩) na ca) (.slice (some ⟨gb, 0, none⟩) nb cb) (.slice none 0 0) ((fstTo ls 1).map nV) ((cntTo ls i).map nV)), row 3 1 (.slice (some ⟨ga, 0, none⟩) na ca) (ls.map nV), row 3 1 (.slice (some ⟨gb, 0, none⟩) nb cb) (((List.range ls.length).map (valAt ls 1 0)).map nV), row 3 1 (.slice none 0 0) []] ∧ i ≤ nb)
  0 (.cons rfl (.cons rfl (.cons rfl (.cons rfl (.cons rfl (.nil _)))))) ⟨st, by omega⟩ ?_
 clear st hcell hlb
 rintro i hp ⟨st, hi⟩
 refine X_seq (X_reg ?_)
 refine XR_a (op_lss rfl rfl) rfl rfl ?_
 refine XR_nil (X_seq ?_)
 refine X_if rfl (fun h => ?_) (fun h => ?_)
 ·have hin : i < ls.length := by omega
  have hci := hcA i (nV ls[i]) (by simp [hin])
  have hx15 := hok.2.2.1 ls[i] (List.getElem_mem hin)
  obtain ⟨x, hx⟩ : ∃ x, ls[i] = x := ⟨_, rfl⟩
  rw [hx] at hci hx15
  have hcx : (cntTo ls i)[x]? = some ((ls.take i).count x) := by simp [cntTo, show x < 16 by omega]
  have hcle : (ls.take i).count x ≤ 320 := Nat.le_trans List.count_le_length (by rw [List.length_take]; omega)
  refine X_skip (X_seq (X_block (X_seq (X_reg ?_))))
  first | refine XR_a (op_index1 rfl rfl rfl (by omega)) rfl rfl ?_ | refine XR_a (op_index rfl rfl rfl (by omega)) rfl rfl ?_
  refine XR_a (op_ld ((cellH_ext (a := ⟨gA, oA + i, none⟩) st.low hci)) rfl rfl rfl) rfl rfl ?_
  refine XA rfl rfl rfl (XR_nil ?_)
  refine X_draw byKind (by kernel_rfl) (by kernel_rfl) ?_
  refine XV rfl rfl rfl (XV rfl rfl rfl (XR_a (op_nilCheck rfl) rfl rfl ?_))
  first | refine XR_a (op_field0 rfl rfl) rfl rfl ?_ | refine XR_a (op_fieldn rfl rfl) rfl rfl ?_
  first | refine XR_a (op_indexA1 rfl rfl rfl (by omega)) rfl rfl ?_ | refine XR_a (op_indexO rfl rfl rfl (by omega)) rfl rfl ?_ | refine XR_a (op_indexA rfl rfl rfl (by omega)) rfl rfl ?_
  refine XR_a (op_ld (st.cell 0 (i := 18 + x) rfl ((codeC_m (fstTo_len _ _) (by rw [cntTo_len]; omega)).trans (map_get_nV hcx))) rfl rfl rfl) rfl rfl ?_
  first | refine XR_a (op_addN (n := 1) rfl rfl (by simp only [inK]; omega)) rfl rfl ?_ | refine XR_a (op_addI rfl rfl (by simp only [inK]; omega)) rfl rfl ?_ | refine XR_a (op_add rfl rfl) rfl rfl ?_
  refine XR_a (op_nilCheck rfl) rfl rfl ?_
  first | refine XR_a (op_field0 rfl rfl) rfl rfl ?_ | refine XR_a (op_fieldn rfl rfl) rfl rfl ?_
  first | refine XR_a (op_indexA1 rfl rfl rfl (by omega)) rfl rfl ?_ | refine XR_a (op_indexO rfl rfl rfl (by omega)) rfl rfl ?_ | refine XR_a (op_indexA rfl rfl rfl (by omega)) rfl rfl ?_
  refine XR_wn (opl_store_pt (i := 18 + x) (v := nV ((ls.take i).count x + 1)) st 0 rfl rfl rfl (by rw [codeC_len (fstTo_len _ _) (cntTo_len _ _)]; simp [Nat.blt_eq]; omega) rfl rfl) rfl rfl fun _ hp st => ?_
  simp only [List.set_cons_zero, List.set_cons_succ] at st
  rw [codeC_setm (fstTo_len _ _) (by rw [cntTo_len]; omega), map_set_nV, cntTo_set hin hx] at st
  refine XR_nil (X_blk (X_reg ?_))
  first | refine XR_a (op_addN (n := 1) rfl rfl (by simp only [inK]; omega)) rfl rfl ?_ | refine XR_a (op_addI rfl rfl (by simp only [inK]; omega)) rfl rfl ?_ | refine XR_a (op_add rfl rfl) rfl rfl ?_
  refine XV rfl rfl rfl (XR_nil ?_)
  exact X_again (i + 1) (.cons rfl (.cons rfl (.cons rfl (.cons rfl (.cons rfl (.nil _)))))) ⟨st, by omega⟩ (by omega)
 ·obtain rfl : i = nb := by omega
  refine X_exit rfl (X_seq (X_reg (XV rfl rfl rfl (XR_a (op_nilCheck rfl) rfl rfl ?_))))
  first | refine XR_a (op_field0 rfl rfl) rfl rfl ?_ | refine XR_a (op_fieldn rfl rfl) rfl rfl ?_
  refine XR_a (op_indexO (i := 0) rfl rfl rfl (by omega)) rfl rfl ?_
  refine XR_wn (opl_store_pt (i := 18 + 0) (v := nV 0) st 0 rfl rfl rfl (by rw [codeC_len (fstTo_len _ _) (cntTo_len _ _)]; rfl) rfl rfl) rfl rfl fun _ hp st => ?_
  simp only [List.set_cons_zero, List.set_cons_succ] at st
  have hcf : (cntTo ls i).set 0 0 = cnts ls := by rw [← hl]; exact cntTo_full ls
  rw [codeC_setm (fstTo_len _ _) (by rw [cntTo_len]; omega), map_set_nV, hcf] at st
  refine XR_nil (X_seq (X_reg (XA rfl rfl rfl (XR_nil (X_seq (X_seq (X_reg (XA rfl rfl rfl (XR_nil ?_)))))))))
  refine X_block ?_
  refine X_loop (fun s => 16 - s.1) (fun s => [(0, .slice (some ⟨gA, oA, none⟩) i c), (3, .pointer (some ⟨p, 0, none⟩)), (6, .int .i64 ((fst ls (s.1 - 1) : Nat) : Int)), (7, .int .i64 (s.1 : Int))])
   (fun (s : Nat × Value) hp => St h0.size h0 hp [pt p 122 (codeC (.slice (some ⟨ga, 0, none⟩) na ca) (.slice (some ⟨gb, 0, none⟩) i cb) s.2 ((fstTo ls s.1).map nV) ((cnts ls).map nV)), row 3 1 (.slice (some ⟨ga, 0, none⟩) na ca) (ls.map nV), row 3 1 (.slice (some ⟨gb, 0, none⟩) i cb) (((List.range ls.length).map (valAt ls s.1 0)).map nV), row 3 1 s.2 ((orderTo ls s.1).map nV)] ∧ 1 ≤ s.1 ∧ s.1 ≤ 16)
   (1, .slice none 0 0) (.cons rfl (.cons rfl (.cons rfl (.cons rfl (.nil _))))) ⟨st, by simp, by simp⟩ ?_
  clear st
  rintro ⟨m, o⟩ hp ⟨st, hm1, hm16⟩
  simp only at st hm1 hm16 ⊢
  refine X_seq (X_seq (X_reg (XV rfl rfl rfl ?_)))
  refine XR_a (op_leq rfl rfl) rfl rfl ?_
  refine XR_nil ?_
  refine X_if rfl (fun h => ?_) (fun h => ?_)
  ·have hm15 : m ≤ 15 := by omega
   have hfb := fst_bd hok (n := m - 1) (by omega)
   have hfm : fst ls m = (fst ls (m - 1) + cn ls (m - 1)) * 2 := by
    obtain ⟨k, rfl⟩ : ∃ k, m = k + 1 := ⟨m - 1, by omega⟩
    rfl
   have hfbm := fst_bd hok hm15
   have hgm : (cnts ls)[m - 1]? = some (cn ls (m - 1)) := by simp [cnts, show m - 1 < 16 by omega]
   refine X_skip (X_seq (X_block (X_seq (X_reg (XV rfl rfl rfl (XV rfl rfl rfl (XV rfl rfl rfl ?_)))))))
   refine XR_a (op_subN (m := m) (n := 1) rfl rfl (by omega) (by simp only [inK]; omega)) rfl rfl ?_
   refine XR_a (op_nilCheck rfl) rfl rfl ?_
   first | refine XR_a (op_field0 rfl rfl) rfl rfl ?_ | refine XR_a (op_fieldn rfl rfl) rfl rfl ?_
   first | refine XR_a (op_indexA1 rfl rfl rfl (by omega)) rfl rfl ?_ | refine XR_a (op_indexO rfl rfl rfl (by omega)) rfl rfl ?_ | refine XR_a (op_indexA rfl rfl rfl (by omega)) rfl rfl ?_
   refine XR_a (op_ld (st.cell 0 (i := 18 + (m - 1)) rfl ((codeC_m (fstTo_len _ _) (by rw [cnts_len]; omega)).trans (map_get_nV hgm))) rfl rfl rfl) rfl rfl ?_
   first | refine XR_a (op_addN rfl rfl (by simp only [inK]; omega)) rfl rfl ?_ | refine XR_a (op_addI rfl rfl (by simp only [inK]; omega)) rfl rfl ?_ | refine XR_a (op_add rfl rfl) rfl rfl ?_
   first | refine XR_a (op_mulN (n := 2) rfl rfl (by simp only [inK]; omega)) rfl rfl ?_ | refine XR_a (op_mulI rfl rfl (by simp only [inK]; omega)) rfl rfl ?_ | refine XR_a (op_mul rfl rfl) rfl rfl ?_
   refine XR_as (.int .i64 ((fst ls m : Nat) : Int)) (by rw [hfm]) ?_
   refine XA rfl rfl rfl (XR_nil (X_seq (X_reg (XV rfl rfl rfl (XV rfl rfl rfl (XV rfl rfl rfl (XR_a (op_nilCheck rfl) rfl rfl ?_)))))))
   first | refine XR_a (op_field0 rfl rfl) rfl rfl ?_ | refine XR_a (op_fieldn rfl rfl) rfl rfl ?_
   first | refine XR_a (op_indexA1 rfl rfl rfl (by omega)) rfl rfl ?_ | refine XR_a (op_indexO rfl rfl rfl (by omega)) rfl rfl ?_ | refine XR_a (op_indexA rfl rfl rfl (by omega)) rfl rfl ?_
   refine XR_wn (opl_store_pt (i := 2 + m) (v := nV (fst ls m)) st 0 rfl rfl rfl (by rw [codeC_len (fstTo_len _ _) (cnts_len _)]; simp [Nat.blt_eq]; omega) rfl rfl) rfl rfl fun _ hp st => ?_
   simp only [List.set_cons_zero, List.set_cons_succ] at st
   rw [codeC_setf (by rw [fstTo_len]; omega), map_set_nV, fstTo_set (by omega)] at st
   refine XR_nil (X_seq (X_reg (XV rfl rfl rfl (XA rfl rfl rfl (XR_nil (X_seq (X_reg (XV rfl rfl rfl ?_))))))))
   refine XR_a (op_len rfl rfl rfl) rfl rfl ?_
   refine XV rfl rfl rfl (XR_nil (X_block ?_))
   refine X_loop (fun s => i - s.1) (fun s => [(0, .slice (some ⟨gA, oA, none⟩) i c), (3, .pointer (some ⟨p, 0, none⟩)), (6, .int .i64 ((fst ls m : Nat) : Int)), (7, .int .i64 (m : Int)), (8, .int .i64 ((fst ls m + (ls.take s.1).count m : Nat) : Int)), (60, .slice (some ⟨gA, oA, none⟩) i c), (61, .int .i64 (i : Int)), (62, .int .i64 (s.1 : Int))])
    (fun (s : Nat × Value) hp => St h0.size h0 hp [pt p 122 (codeC (.slice (some ⟨ga, 0, none⟩) na ca) (.slice (some ⟨gb, 0, none⟩) i cb) s.2 ((fstTo ls (m + 1)).map nV) ((cnts ls).map nV)), row 3 1 (.slice (some ⟨ga, 0, none⟩) na ca) (ls.map nV), row 3 1 (.slice (some ⟨gb, 0, none⟩) i cb) (((List.range ls.length).map (valAt ls m s.1)).map nV), row 3 1 s.2 ((orderTo ls m ++ ofLen ls m s.1).map nV)] ∧ s.1 ≤ i)
    (0, o) (.cons rfl (.cons rfl (.cons rfl (.cons rfl (.cons (congrArg (fun x : Nat => some (Value.int .i64 (x : Int))) (by simp)) (.cons rfl (.cons rfl (.cons rfl (.nil _))))))))) ⟨by simpa [ofLen] using st, by simp⟩ ?_
   clear st
   rintro ⟨s, o⟩ hp ⟨st, hs⟩
   simp only at st hs ⊢
   refine X_seq (X_reg ?_)
   refine XR_a (op_lss rfl rfl) rfl rfl ?_
   refine XR_nil (X_seq ?_)
   refine X_if rfl (fun h => ?_) (fun h => ?_)
   ·have hsn : s < ls.length := by omega
    have hcs := hcA s (nV ls[s]) (by simp [hsn])
    have hcnt := count_take_succ hsn m
    have hcc : (ls.take s).count m ≤ 320 := Nat.le_trans List.count_le_length (by rw [List.length_take]; omega)
    have hol : (orderTo ls m ++ ofLen ls m s).length ≤ 1000000 := by
     rw [List.length_append, ofLen_length ls m s (by omega)]
     obtain ⟨k, rfl⟩ : ∃ k, m = k + 1 := ⟨m - 1, by omega⟩
     have := orderTo_le ls k
     have := Nat.mul_le_mul_right ls.length (show k ≤ 15 by omega)
     omega
    refine X_skip (X_seq (X_block (X_seq (X_reg (XV rfl rfl rfl ?_)))))
    first | refine XR_a (op_index1 rfl rfl rfl (by omega)) rfl rfl ?_ | refine XR_a (op_index rfl rfl rfl (by omega)) rfl rfl ?_
    refine XR_a (op_ld ((cellH_ext (a := ⟨gA, oA + s, none⟩) st.low hcs)) rfl rfl rfl) rfl rfl ?_
    refine XA rfl rfl rfl (XA rfl rfl rfl (XR_nil (X_seq (X_reg (XV rfl rfl rfl (XV rfl rfl rfl ?_))))))
    refine XR_a (op_eql rfl rfl) rfl rfl ?_
    refine XR_nil ?_
    refine X_if rfl (fun h => ?_) (fun h => ?_)
    ·have hsm : ls[s] = m := by omega
     rw [if_pos hsm] at hcnt
     have hset := valAt_set hsn hsm (by omega)
     refine X_seq (X_reg (XV rfl rfl rfl (XR_a (op_nilCheck rfl) rfl rfl ?_)))
     first | refine XR_a (op_field0 rfl rfl) rfl rfl ?_ | refine XR_a (op_fieldn rfl rfl) rfl rfl ?_
     refine XR_a (op_ld (st.cell 0 (i := 1) rfl rfl) rfl rfl rfl) rfl rfl ?_
     refine XV rfl rfl rfl (XV rfl rfl rfl ?_)
     first | refine XR_a (op_index1 rfl rfl rfl (by omega)) rfl rfl ?_ | refine XR_a (op_index rfl rfl rfl (by omega)) rfl rfl ?_
     refine XR_wn (opl_store_row (o := 0) (i := s) (v := nV (fst ls m + (ls.take s).count m)) st 2 rfl (congrArg (fun x => some (Value.pointer (some ⟨gb, x, none⟩))) (by omega)) rfl (by simp; omega) rfl rfl) rfl rfl fun _ hp st => ?_
     simp only [List.set_cons_zero, List.set_cons_succ] at st
     rw [map_set_nV, hset] at st
     refine XR_nil (X_seq (X_reg (XV rfl rfl rfl (XV rfl rfl rfl (XR_a (op_nilCheck rfl) rfl rfl ?_)))))
     first | refine XR_a (op_field0 rfl rfl) rfl rfl ?_ | refine XR_a (op_fieldn rfl rfl) rfl rfl ?_
     refine XR_a (op_ld (st.cell 0 (i := 34) rfl (codeC_o (fstTo_len _ _) (cnts_len _))) rfl rfl rfl) rfl rfl ?_
     refine XV rfl rfl rfl ?_
     refine XR_wa (opl_lit1 rfl rfl rfl) rfl rfl rfl ?_
     rintro v hp hnew
     have hrv := hnew
     obtain ⟨A2, n2, c2, rfl, hlen2, _, _, hrd2⟩ := ((St.start _).new hnew).row 0 rfl
     replace st := st.ext hnew.1
     refine XR_wa (opl_append st 3 rfl (hrd2) (hlen2) (by intro u hu; simp at hu; subst hu; rfl) (by simp at hol ⊢; omega) rfl rfl rfl rfl rfl rfl rfl) rfl rfl rfl fun v hp st => ?_
     simp only [List.set_cons_zero, List.set_cons_succ] at st
     obtain ⟨A3, n3, c3, rfl, _, _, _, _⟩ := st.row 3 rfl
     refine XR_a (op_nilCheck rfl) rfl rfl ?_
     first | refine XR_a (op_field0 rfl rfl) rfl rfl ?_ | refine XR_a (op_fieldn rfl rfl) rfl rfl ?_
     refine XR_wn (opl_store_pt (i := 34) st 0 rfl rfl rfl (by rw [codeC_len (fstTo_len _ _) (cnts_len _)]; rfl) rfl rfl) rfl rfl fun _ hp st => ?_
     simp only [List.set_cons_zero, List.set_cons_succ] at st
     rw [codeC_seto (fstTo_len _ _) (cnts_len _), show [Value.int IntKind.i64 (s : Int)] = ([s] : List Nat).map nV from rfl, ← List.map_append, List.append_assoc] at st
     refine XR_nil (X_reg (XV rfl rfl rfl ?_))
     first | refine XR_a (op_addN (n := 1) rfl rfl (by simp only [inK]; omega)) rfl rfl ?_ | refine XR_a (op_addI rfl rfl (by simp only [inK]; omega)) rfl rfl ?_ | refine XR_a (op_add rfl rfl) rfl rfl ?_
     refine XA rfl rfl rfl (XR_nil (X_blk (X_reg ?_)))
     first | refine XR_a (op_addN (n := 1) rfl rfl (by simp only [inK]; omega)) rfl rfl ?_ | refine XR_a (op_addI rfl rfl (by simp only [inK]; omega)) rfl rfl ?_ | refine XR_a (op_add rfl rfl) rfl rfl ?_
     refine XV rfl rfl rfl (XR_nil ?_)
     have hof := ofLen_succ (n := m) hsn
     rw [if_pos hsm] at hof
     rw [← hof] at st
     exact X_again (s + 1, _) (.cons rfl (.cons rfl (.cons rfl (.cons rfl (.cons (by rw [hcnt, ← Nat.add_assoc]; rfl) (.cons rfl (.cons rfl (.cons rfl (.nil _))))))))) ⟨st, by simp only; omega⟩ (by simp only; omega)
    ·refine X_skip (X_blk (X_reg ?_))
     first | refine XR_a (op_addN (n := 1) rfl rfl (by simp only [inK]; omega)) rfl rfl ?_ | refine XR_a (op_addI rfl rfl (by simp only [inK]; omega)) rfl rfl ?_ | refine XR_a (op_add rfl rfl) rfl rfl ?_
     refine XV rfl rfl rfl (XR_nil ?_)
     have hsm : ls[s] ≠ m := by omega
     have hof := ofLen_succ (n := m) hsn
     rw [if_neg hsm, List.append_nil] at hof
     rw [if_neg hsm, Nat.add_zero] at hcnt
     rw [← hof, valAt_skip hsn hsm] at st
     exact X_again (s + 1, o) (.cons rfl (.cons rfl (.cons rfl (.cons rfl (.cons (by rw [hcnt]; rfl) (.cons rfl (.cons rfl (.cons rfl (.nil _))))))))) ⟨st, by simp only; omega⟩ (by simp only; omega)
   ·obtain rfl : s = i := by omega
    rw [show (valAt ls m s) = valAt ls m ls.length by rw [hl], valAt_next ls m (by omega), show ofLen ls m s = ofLen ls m ls.length by rw [hl], ← orderTo_succ ls hm1] at st
    refine X_exit rfl (X_blk (X_reg (XV rfl rfl rfl ?_)))
    first | refine XR_a (op_addN (n := 1) rfl rfl (by simp only [inK]; omega)) rfl rfl ?_ | refine XR_a (op_addI rfl rfl (by simp only [inK]; omega)) rfl rfl ?_ | refine XR_a (op_add rfl rfl) rfl rfl ?_
    refine XA rfl rfl rfl (XR_nil ?_)
    exact X_again (m + 1, o) (.cons rfl (.cons rfl (.cons rfl (.cons rfl (.nil _))))) ⟨st, by simp only; omega, by simp only; omega⟩ (by simp only; omega)
  ·obtain rfl : m = 16 := by omega
   rw [valAt_full ls hok.2.2.1] at st
   refine X_exit rfl (X_seq (X_reg (XV rfl rfl rfl (XA rfl rfl rfl (XR_nil ?_)))))
   refine X_ret (.cons (.tmp rfl) .nil) ?_
   exact ⟨p, rfl, st.uncode⟩
end Go.Bn
end

section
set_option linter.unusedVariables false
set_option linter.unusedSimpArgs false
namespace Go.Bn
def codeBits : Nat → Nat → List Bool
  | _, 0 => []
  | v, n + 1 => codeBits (v / 2) n ++ [v % 2 == 1]
theorem codeBits_length : ∀ (n v : Nat), (codeBits v n).length = n
 | 0, _ => rfl
 | n + 1, v => by simp [codeBits, codeBits_length n]
theorem codeBits_cons : ∀ (n v : Nat), codeBits v (n + 1) = (v / 2 ^ n % 2 == 1) :: codeBits v n
 | 0, v => by simp [codeBits]
 | n + 1, v => by
  rw [codeBits, codeBits_cons n (v / 2), codeBits, List.cons_append, Nat.div_div_eq_div_mul, ← Nat.pow_add_one', ]
theorem codeBits_take : ∀ (n k v : Nat), k ≤ n → (codeBits v n).take k = codeBits (v / 2 ^ (n - k)) k
  | 0, k, v, h => by obtain rfl : k = 0 := by omega
                     rfl
  | n + 1, k, v, h => by
    rcases Nat.lt_or_ge n k with h1 | h1
    · obtain rfl : k = n + 1 := by omega
      rw [Nat.sub_self, Nat.pow_zero, Nat.div_one, List.take_of_length_le (by rw [codeBits_length]; omega)]
    · rw [codeBits, List.take_append_of_le_length (by rw [codeBits_length]; omega), codeBits_take n k _ h1, Nat.div_div_eq_div_mul, ← Nat.pow_add_one', show n - k + 1 = n + 1 - k by omega]
def tval (bs : List Bool) : Nat := bs.foldl (fun v b => v * 2 + b.toNat) 0
theorem tval_snoc (bs : List Bool) (b : Bool) : tval (bs ++ [b]) = tval bs * 2 + b.toNat := by simp [tval]
theorem tval_codeBits : ∀ (n v : Nat), tval (codeBits v n) = v % 2 ^ n
 | 0, v => by simp [codeBits, tval, Nat.mod_one]
 | n + 1, v => by
  rw [codeBits, tval_snoc, tval_codeBits n, mod2_toNat, Nat.pow_succ, Nat.mul_comm (2 ^ n) 2, Nat.mod_mul]; omega
theorem tval_take_succ (bs : List Bool) {n : Nat} (h : n < bs.length) : tval (bs.take (n + 1)) = tval (bs.take n) * 2 + (bs[n]).toNat := by
 rw [List.take_succ_eq_append_getElem h, tval_snoc]
theorem tval_lt (bs : List Bool) : ∀ n, tval (bs.take n) < 2 ^ n
 | 0 => by simp [tval]
 | n + 1 => by
  have ih := tval_lt bs n
  rw [Nat.pow_succ]
  rcases Nat.lt_or_ge n bs.length with h | h
  ·rw [tval_take_succ bs h]
   have : (bs[n]).toNat ≤ 1 := Bool.toNat_le _
   omega
  ·rw [show bs.take (n + 1) = bs.take n by rw [List.take_of_length_le (by omega), List.take_of_length_le h]]; omega
def hitC (ls : List Nat) (v n : Nat) : Prop := fst ls n ≤ v ∧ v < fst ls n + cn ls n
instance (ls : List Nat) (v n : Nat) : Decidable (hitC ls v n) := by unfold hitC; infer_instance
def beginC (ls : List Nat) (v n k : Nat) : Prop := 0 < cn ls k ∧ fst ls k < (v + 1) * 2 ^ (k - n) ∧ v * 2 ^ (k - n) < fst ls k + cn ls k
instance (ls : List Nat) (v n k : Nat) : Decidable (beginC ls v n k) := by unfold beginC; infer_instance
def overC (ls : List Nat) (v n : Nat) : Prop := ∀ k, n < k → k < 16 → ¬ beginC ls v n k
open Classical in
noncomputable def overB (ls : List Nat) (v n : Nat) : Bool := decide (overC ls v n)
theorem overB_iff {ls : List Nat} {v n : Nat} : overB ls v n = true ↔ overC ls v n := by unfold overB; exact @decide_eq_true_iff _ (Classical.propDecidable _)
def symAt (ls : List Nat) (n j : Nat) : Nat := (ofLen ls n ls.length).getD j 0
noncomputable def takeGo (ls : List Nat) (bs : List Bool) (left : Nat) : Nat → Nat → Nat × Nat × Nat
  | 0, _ => (0, 0, 2)
  | f + 1, n =>
    if left < n then (0, 0, 2)
    else if hitC ls (tval (bs.take n)) n then (symAt ls n (tval (bs.take n) - fst ls n), n, 0)
    else if overB ls (tval (bs.take n)) n = true then (0, 0, 13)
    else takeGo ls bs left f (n + 1)
noncomputable def takeC (ls : List Nat) (bs : List Bool) : Nat × Nat × Nat := takeGo ls bs (min bs.length 15) 16 1
theorem takeGo_end {ls : List Nat} {bs : List Bool} {left n : Nat} (h : left < n) : ∀ f, takeGo ls bs left f n = (0, 0, 2)
 | 0 => rfl
 | f + 1 => by rw [takeGo, if_pos h]
theorem takeGo_le (ls : List Nat) (bs : List Bool) (left : Nat) : ∀ f n, (takeGo ls bs left f n).2.1 ≤ left
 | 0, _ => Nat.zero_le _
 | f + 1, n => by
  rw [takeGo]
  split
  ·exact Nat.zero_le _
  ·split
   ·simp only; omega
   ·split
    ·exact Nat.zero_le _
    ·exact takeGo_le ls bs left f (n + 1)
theorem takeC_le (ls : List Nat) (bs : List Bool) : (takeC ls bs).2.1 ≤ bs.length := Nat.le_trans (takeGo_le ls bs _ _ _) (Nat.min_le_left _ _)
theorem fst_next {ls : List Nat} {n : Nat} : ∀ {m : Nat}, n ≤ m → (fst ls n + cn ls n) * 2 ^ (m + 1 - n) ≤ fst ls (m + 1)
 | m, h => by
  rcases Nat.eq_or_lt_of_le h with rfl | h1
  ·rw [show n + 1 - n = 1 by omega, fst]; omega
  ·obtain ⟨k, rfl⟩ : ∃ k, m = k + 1 := ⟨m - 1, by omega⟩
   have ih := fst_next (ls := ls) (n := n) (m := k) (by omega)
   rw [fst, show k + 1 + 1 - n = (k + 1 - n) + 1 by omega, Nat.pow_succ, ← Nat.mul_assoc]
   omega
theorem ofLen_split {ls : List Nat} {s : Nat} (hs : s < ls.length) : ∀ t, s < t → t ≤ ls.length → ∃ r, ofLen ls ls[s] t = ofLen ls ls[s] s ++ s :: r
 | 0, h, _ => by omega
 | t + 1, h, ht => by
  rw [ofLen_succ (by omega)]
  rcases Nat.eq_or_lt_of_le (show s ≤ t by omega) with rfl | h1
  ·rw [if_pos rfl]; exact ⟨[], rfl⟩
  ·obtain ⟨r, hr⟩ := ofLen_split hs t h1 (by omega)
   rw [hr]
   exact ⟨r ++ _, by rw [List.append_assoc]; rfl⟩
theorem symAt_val {ls : List Nat} {s : Nat} (hs : s < ls.length) : symAt ls ls[s] ((ls.take s).count ls[s]) = s := by
 obtain ⟨r, hr⟩ := ofLen_split hs ls.length hs (Nat.le_refl _)
 unfold symAt
 rw [hr]
 have hl := ofLen_length ls ls[s] s (by omega)
 rw [List.getD, List.getElem?_append_right (by omega), hl]; simp
theorem getD_get {ls : List Nat} {s : Nat} (hs : s < ls.length) : ls.getD s 0 = ls[s] := by simp [List.getD, hs]
theorem val_eq {ls : List Nat} {s : Nat} (hs : s < ls.length) (h0 : ls[s] ≠ 0) : val ls s = fst ls ls[s] + (ls.take s).count ls[s] := by
 unfold val
 rw [getD_get hs, if_neg h0]
theorem takeC_put {ls : List Nat} (hok : lensOK ls) {s : Nat} (hs : s < ls.length) (h0 : ls[s] ≠ 0) (r : List Bool) : takeC ls (codeBits (val ls s) ls[s] ++ r) = (s, ls[s], 0) := by
 obtain ⟨hv2, hv1⟩ := val_lt hok hs h0
 have hn15 := hok.2.2.1 ls[s] (List.getElem_mem hs)
 have hbd := fst_le hok hn15
 have hve := val_eq hs h0
 have hsy := symAt_val hs
 generalize ls[s] = n at *
 generalize val ls s = v at *
 have htk : ∀ k, k ≤ n → tval ((codeBits v n ++ r).take k) = v / 2 ^ (n - k) := by
  intro k hk
  rw [List.take_append_of_le_length (by rw [codeBits_length]; exact hk), codeBits_take n k v hk, tval_codeBits]
  refine Nat.mod_eq_of_lt ((Nat.div_lt_iff_lt_mul (Nat.pow_pos (by omega))).2 ?_)
  rw [← Nat.pow_add, show k + (n - k) = n by omega]; omega
 have hgo : ∀ j f k, j + k = n → j < f → 1 ≤ k → takeGo ls (codeBits v n ++ r) (min (codeBits v n ++ r).length 15) f k = (s, n, 0) := by
  intro j
  induction j with
  | zero =>
   intro f k hk hf h1
   obtain rfl : k = n := by omega
   obtain ⟨f, rfl⟩ : ∃ g, f = g + 1 := ⟨f - 1, by omega⟩
   rw [takeGo, if_neg (by rw [List.length_append, codeBits_length]; omega), htk k (Nat.le_refl _), Nat.sub_self, Nat.pow_zero, Nat.div_one, if_pos ⟨hv1, hv2⟩, show v - fst ls k = (ls.take s).count k by omega, hsy]
  | succ j ih =>
   intro f k hk hf h1
   obtain ⟨f, rfl⟩ : ∃ g, f = g + 1 := ⟨f - 1, by omega⟩
   have hp : 0 < 2 ^ (n - k) := Nat.pow_pos (by omega)
   have hnx := fst_next (ls := ls) (n := k) (m := n - 1) (by omega)
   rw [show n - 1 + 1 = n by omega] at hnx
   have h2 : fst ls k + cn ls k ≤ v / 2 ^ (n - k) := (Nat.le_div_iff_mul_le hp).2 (by omega)
   rw [takeGo, if_neg (by rw [List.length_append, codeBits_length]; omega), htk k (by omega), if_neg (fun hh => by have := hh.2; omega), if_neg ?_]
   ·exact ih f (k + 1) (by omega) (by omega) (by omega)
   ·rw [overB_iff]
    intro ho
    refine ho n (by omega) (by omega) ⟨by omega, ?_, ?_⟩
    ·exact Nat.lt_of_le_of_lt hv1 (by have := Nat.lt_div_mul_add (a := v) hp; rw [Nat.add_mul]; omega)
    ·have := Nat.div_mul_le_self v (2 ^ (n - k)); omega
 exact hgo (n - 1) 16 1 (by omega) (by omega) (by omega)
theorem val_apart {ls : List Nat} (hok : lensOK ls) {i k : Nat} (hi : i < ls.length) (hk : k < ls.length) (hne : i ≠ k) (h1 : ls[i] ≠ 0) (h2 : ls[k] ≠ 0) (hle : ls[i] ≤ ls[k]) : val ls i ≠ val ls k / 2 ^ (ls[k] - ls[i]) := by
 obtain ⟨hv2, hv1⟩ := val_lt hok hi h1
 obtain ⟨hw2, hw1⟩ := val_lt hok hk h2
 rcases Nat.eq_or_lt_of_le hle with h | h
 ·rw [h, Nat.sub_self, Nat.pow_zero, Nat.div_one, val_eq hi h1, val_eq hk h2, h]
  have key : ∀ a b : Nat, a < b → (ha : a < ls.length) → (ls.take a).count ls[a] + 1 ≤ (ls.take b).count ls[a] := by
   intro a b hab ha
   have h1 := count_take_succ ha ls[a]
   rw [if_pos rfl] at h1
   rw [← h1]
   exact (List.take_sublist_take_left (by omega)).count_le _
  rcases Nat.lt_or_ge i k with h3 | h3
  ·have := key i k h3 hi; rw [h] at this; omega
  ·have := key k i (by omega) hk; omega
 ·have hp : 0 < 2 ^ (ls[k] - ls[i]) := Nat.pow_pos (by omega)
  have hnx := fst_next (ls := ls) (n := ls[i]) (m := ls[k] - 1) (by omega)
  rw [show ls[k] - 1 + 1 = ls[k] by omega] at hnx
  have h2 : fst ls ls[i] + cn ls ls[i] ≤ val ls k / 2 ^ (ls[k] - ls[i]) := (Nat.le_div_iff_mul_le hp).2 (by omega)
  omega
end Go.Bn
end

section
namespace Go.Bn
def leB : Nat → Nat → List UInt8
  | 0, _ => []
  | w + 1, n => UInt8.ofNat n :: leB w (n / 256)
def leV : List UInt8 → Nat
  | [] => 0
  | b :: r => b.toNat + 256 * leV r
def wid (k : Int) : Nat := (max 1 (min 4 k)).toNat
theorem wid_int (k : Int) : ((wid k : Nat) : Int) = max 1 (min 4 k) := by unfold wid; omega
theorem wid_pos (k : Int) : 1 ≤ wid k := by unfold wid; omega
theorem wid_le (k : Int) : wid k ≤ 4 := by unfold wid; omega
theorem leB_length : ∀ (w n : Nat), (leB w n).length = w
 | 0, _ => rfl
 | w + 1, n => by simp [leB, leB_length w]
theorem leB_snoc : ∀ (w n : Nat), leB (w + 1) n = leB w n ++ [UInt8.ofNat (n / 256 ^ w)]
 | 0, n => by simp [leB]
 | w + 1, n => by
  rw [leB, leB_snoc w (n / 256), leB, List.cons_append, Nat.div_div_eq_div_mul, Nat.pow_succ, Nat.mul_comm 256]
theorem leV_lt : ∀ (l : List UInt8), leV l < 256 ^ l.length
 | [] => by simp [leV]
 | b :: r => by
  have := leV_lt r
  have hb := b.toNat_lt
  simp only [leV, List.length_cons, Nat.pow_succ]
  omega
def getF (l : List UInt8) (at_ : Int) (k : Int) : Option Nat :=
  if 0 ≤ at_ ∧ at_ + (wid k : Int) ≤ (l.length : Int) then some (leV ((l.drop at_.toNat).take (wid k))) else none
end Go.Bn
end

section
set_option linter.unusedVariables false
set_option linter.unusedSimpArgs false
set_option maxHeartbeats 4000000
set_option maxRecDepth 20000
namespace Go.Bn
open Go Proofs
theorem row_one {B : Nat} {h0 hp : Heap} {rs : List Res} (s : St B h0 hp rs) (j : Nat) {e sz : Nat} {v : Value} {vs : List Value} (hj : rs[j]? = some (row e sz v vs)) : Value.one v = true := by
 obtain ⟨A, n, c, rfl, _⟩ := s.row j hj; rfl
theorem bwidth_spec (n : Int) (hp : Heap) : Ret Try.prog 42 [.int .i64 n] hp fun v hp' => v = .int .i64 (wd 32 n : Nat) ∧ hp = hp' := by
 refine ret_of_X Try.func42 rfl rfl fun w0 hw0 => ?_
 simp only [argE, Nat.zero_add, Nat.reduceAdd]
 refine X_seq (X_reg (XA rfl rfl rfl (XR_nil (X_seq (X_reg (XV rfl rfl rfl ?_))))))
 refine XR_a (op_min2 rfl rfl) rfl rfl ?_
 refine XR_a (op_max2 rfl rfl) rfl rfl ?_
 refine XA rfl rfl rfl (XR_nil ?_)
 refine X_ret (.cons (.tmp rfl) .nil) ?_
 refine ⟨?_, rfl⟩
 rw [wd_int]; rfl
theorem bwidth_ref (k : Int) (hp : Heap) : Ret Try.prog 97 [.int .i64 k] hp fun v hp' => v = .int .i64 (wd 32 k : Nat) ∧ hp = hp' := by
 refine ret_of_X Try.func97 rfl rfl fun w0 hw0 => ?_
 simp only [argE, Nat.zero_add, Nat.reduceAdd]
 refine X_seq (X_reg (XA rfl rfl rfl (XR_nil (X_seq (X_seq (X_reg (XV rfl rfl rfl ?_)))))))
 refine XR_a (op_lss rfl rfl) rfl rfl ?_
 refine XR_nil ?_
 refine X_if rfl (fun h => ?_) (fun h => ?_)
 ·refine X_seq (X_reg (XA rfl rfl rfl (XR_nil ?_)))
  refine X_ret (.cons (.tmp rfl) .nil) ?_
  refine ⟨?_, rfl⟩
  rw [wd_int, show max 0 (min ((32 : Nat) : Int) k) = 0 by omega]; rfl
 ·refine X_skip (X_seq (X_seq (X_reg (XV rfl rfl rfl ?_))))
  refine XR_a (op_gtr rfl rfl) rfl rfl ?_
  refine XR_nil ?_
  refine X_if rfl (fun h => ?_) (fun h => ?_)
  ·refine X_seq (X_reg (XA rfl rfl rfl (XR_nil ?_)))
   refine X_ret (.cons (.tmp rfl) .nil) ?_
   refine ⟨?_, rfl⟩
   rw [wd_int, show max 0 (min ((32 : Nat) : Int) k) = 32 by omega]; rfl
  ·refine X_skip (X_seq (X_reg (XV rfl rfl rfl (XA rfl rfl rfl (XR_nil ?_)))))
   refine X_ret (.cons (.tmp rfl) .nil) ?_
   refine ⟨?_, rfl⟩
   rw [wd_int, show max 0 (min ((32 : Nat) : Int) k) = k by omega]; rfl
@[reducible] def wrG (p : Nat) (v : Value) (l : List UInt8) (x m : Nat) : Res := starR (pt p 41 [v, .int .u64 (x : Int), .int .i64 (m : Int)]) (row 5 1 v (l.map byteV))
def wrR (p : Nat) (bs : List Bool) : Res := exR fun (s : Value × List UInt8 × Nat × Nat) => andR (s.2.2.1 < 2 ^ s.2.2.2 ∧ s.2.2.2 < 8 ∧ bs = bitsB s.2.1 ++ bitsN s.2.2.2 s.2.2.1) (wrG p s.1 s.2.1 s.2.2.1 s.2.2.2)
theorem St.wr {B p : Nat} {bs : List Bool} {F : List Res} {h0 hp : Heap} (st : St B h0 hp (wrR p bs :: F)) : ∃ v l x m, x < 2 ^ m ∧ m < 8 ∧ bs = bitsB l ++ bitsN m x ∧ St B h0 hp (pt p 41 [v, .int .u64 (x : Int), .int .i64 (m : Int)] :: Bn.row 5 1 v (l.map byteV) :: F) := by
 obtain ⟨⟨vb, l, x, m⟩, st1⟩ := St.ex.1 st
 obtain ⟨⟨hx, hm, hbs⟩, st⟩ := St.and.1 st1
 exact ⟨vb, l, x, m, hx, hm, hbs, St.star.1 st⟩
theorem St.unwr {B p : Nat} {F : List Res} {h0 hp : Heap} {v : Value} {l : List UInt8} {x m : Nat} (st : St B h0 hp (pt p 41 [v, .int .u64 (x : Int), .int .i64 (m : Int)] :: Bn.row 5 1 v (l.map byteV) :: F)) (hx : x < 2 ^ m) (hm : m < 8) : St B h0 hp (wrR p (bitsB l ++ bitsN m x) :: F) :=
 St.ex.2 ⟨(v, l, x, m), St.and.2 ⟨⟨hx, hm, rfl⟩, St.star.2 st⟩⟩
theorem St.wr0 {B p : Nat} {F : List Res} {h0 hp : Heap} (st : St B h0 hp (pt p 41 [.slice none 0 0, .int .u64 0, .int .i64 0] :: F)) : St B h0 hp (wrR p [] :: F) := by
 have h := (st.nilrow 5 1).perm (List.Perm.swap _ _ _)
 exact St.unwr (l := []) (x := 0) (m := 0) h (by decide) (by decide)
theorem put_spec {B p n : Nat} {k : Int} {bs : List Bool} {F : List Res} {h0 : Heap} (sw : St B h0 h0 (wrR p bs :: F)) (hn : n < 4294967296) (hb : bs.length ≤ 1099511627776) :
  Ret Try.prog 18 [.pointer (some ⟨p, 0, none⟩), .int .u32 (n : Int), .int .i64 k] h0 fun v h' => v = .tuple #[] ∧ St B h0 h' (wrR p (bs ++ bitsN (wd 32 k) n) :: F) := by
 obtain ⟨vb, l, x, m, hxm, hm, hbs, st⟩ := sw.wr
 clear sw
 subst hbs
 have hwd := wd_le 32 k
 generalize hkw : wd 32 k = kw at hwd
 have hl : 8 * l.length ≤ 1099511627776 := by rw [List.length_append, bitsB_length] at hb; omega
 clear hb
 have hk2 : 2 ^ kw ≤ 4294967296 := Nat.le_trans (Nat.pow_le_pow_right (by omega) hwd) (by decide)
 have hm2 : 2 ^ m ≤ 128 := Nat.le_trans (Nat.pow_le_pow_right (by omega) (show m ≤ 7 by omega)) (by decide)
 have hk1 : 1 ≤ 2 ^ kw := Nat.two_pow_pos kw
 have hxn := put_lt (n := n) (k := kw) hxm
 have hmk : 2 ^ (m + kw) ≤ 549755813888 := Nat.le_trans (Nat.pow_le_pow_right (by omega) (show m + kw ≤ 39 by omega)) (by decide)
 have hnm : n % 2 ^ kw < 2 ^ kw := Nat.mod_lt _ hk1
 refine ret_of_X Try.func18 rfl rfl fun w0 hw0 => ?_
 simp only [argE, Nat.zero_add, Nat.reduceAdd]
 refine X_seq (X_seq (X_reg (XV rfl rfl rfl ?_)))
 refine XR_a (op_ptr_nil rfl rfl rfl) rfl rfl ?_
 refine XR_nil (X_else rfl (X_skip (X_seq (X_reg (XV rfl rfl rfl ?_)))))
 refine XR_wa (opl_call (bwidth_spec k _) rfl (by kernel_rfl)) rfl rfl rfl ?_
 rintro _ _ ⟨rfl, rfl⟩
 rw [hkw]
 refine XA rfl rfl rfl (XR_nil (X_seq ?_))
 refine X_draw byKind (by kernel_rfl) (by kernel_rfl) ?_
 refine XV rfl rfl rfl (XR_a (op_nilCheck rfl) rfl rfl ?_)
 first | refine XR_a (op_field0 rfl rfl) rfl rfl ?_ | refine XR_a (op_fieldn rfl rfl) rfl rfl ?_
 refine XR_a (op_ld (by first | assumption | exact st.cell 0 rfl rfl | exact st.cell 1 rfl rfl | exact st.cell 2 rfl rfl | exact st.cell 3 rfl rfl) rfl rfl rfl) rfl rfl ?_
 refine XV rfl rfl rfl ?_
 first | refine XR_a (op_convI rfl rfl (by simp only [inK]; omega)) rfl rfl ?_ | refine XR_a (op_convU rfl rfl rfl) rfl rfl ?_ | refine XR_a (op_conv rfl rfl) rfl rfl ?_
 refine XV rfl rfl rfl ?_
 refine XR_a (op_shlC (m := 1) kw rfl rfl (by simp only [IntKind.bits]; omega) (by simp only [inK]; omega)) rfl rfl ?_
 rw [Nat.one_mul]
 refine XR_a (op_subN rfl rfl hk1 (by simp only [inK]; omega)) rfl rfl ?_
 first | refine XR_a (op_andN rfl rfl rfl (by simp only [IntKind.bits]; omega) (by simp only [IntKind.bits]; omega)) rfl rfl ?_ | refine XR_a (op_and rfl rfl) rfl rfl ?_
 rw [Nat.and_two_pow_sub_one_eq_mod]
 refine XV rfl rfl rfl (XR_a (op_nilCheck rfl) rfl rfl ?_)
 first | refine XR_a (op_field0 rfl rfl) rfl rfl ?_ | refine XR_a (op_fieldn rfl rfl) rfl rfl ?_
 refine XR_a (op_ld (by first | assumption | exact st.cell 0 rfl rfl | exact st.cell 1 rfl rfl | exact st.cell 2 rfl rfl | exact st.cell 3 rfl rfl) rfl rfl rfl) rfl rfl ?_
 have hsh : n % 2 ^ kw * 2 ^ m < 2 ^ (m + kw) := by omega
 refine XR_a (op_shlC m rfl rfl (by simp only [IntKind.bits]; omega) (by simp only [inK]; omega)) rfl rfl ?_
 first | refine XR_a (op_orN rfl rfl rfl (by simp only [IntKind.bits]; omega) (by simp only [IntKind.bits]; omega)) rfl rfl ?_ | refine XR_a (op_or rfl rfl) rfl rfl ?_
 rw [or_put hxm]
 refine XR_a (op_nilCheck rfl) rfl rfl ?_
 first | refine XR_a (op_field0 rfl rfl) rfl rfl ?_ | refine XR_a (op_fieldn rfl rfl) rfl rfl ?_
 refine XR_wn (opl_store_pt st 0 rfl rfl rfl rfl rfl (rfl)) rfl rfl fun _ hp st => ?_
 simp only [List.set_cons_zero, List.set_cons_succ] at st
 refine XR_nil (X_seq (X_reg (XV rfl rfl rfl (XR_a (op_nilCheck rfl) rfl rfl ?_))))
 first | refine XR_a (op_field0 rfl rfl) rfl rfl ?_ | refine XR_a (op_fieldn rfl rfl) rfl rfl ?_
 refine XR_a (op_ld (by first | assumption | exact st.cell 0 rfl rfl | exact st.cell 1 rfl rfl | exact st.cell 2 rfl rfl | exact st.cell 3 rfl rfl) rfl rfl rfl) rfl rfl ?_
 refine XV rfl rfl rfl ?_
 first | refine XR_a (op_addN rfl rfl (by simp only [inK]; omega)) rfl rfl ?_ | refine XR_a (op_addI rfl rfl (by simp only [inK]; omega)) rfl rfl ?_ | refine XR_a (op_add rfl rfl) rfl rfl ?_
 refine XR_a (op_nilCheck rfl) rfl rfl ?_
 first | refine XR_a (op_field0 rfl rfl) rfl rfl ?_ | refine XR_a (op_fieldn rfl rfl) rfl rfl ?_
 refine XR_wn (opl_store_pt st 0 rfl rfl rfl rfl rfl (rfl)) rfl rfl fun _ hp st => ?_
 simp only [List.set_cons_zero, List.set_cons_succ] at st
 refine XR_nil (X_block ?_)
 have htot : bitsB l ++ bitsN (m + kw) (x + n % 2 ^ kw * 2 ^ m) = bitsB l ++ bitsN m x ++ bitsN kw n := by rw [bitsN_put hxm, List.append_assoc]
 generalize bitsB l ++ bitsN m x ++ bitsN kw n = T at htot ⊢
 refine X_loop (fun s => s.2.2.2) (fun _ => [(0, .pointer (some ⟨p, 0, none⟩))])
  (fun (s : Value × List UInt8 × Nat × Nat) hp => St B h0 hp (pt p 41 [s.1, .int .u64 (s.2.2.1 : Int), .int .i64 (s.2.2.2 : Int)] :: row 5 1 s.1 (s.2.1.map byteV) :: F) ∧ s.2.2.1 < 2 ^ s.2.2.2 ∧ 8 * s.2.1.length + s.2.2.2 ≤ 1099511627876 ∧ bitsB s.2.1 ++ bitsN s.2.2.2 s.2.2.1 = T)
  (vb, l, x + n % 2 ^ kw * 2 ^ m, m + kw) (.cons rfl (.nil _)) ⟨st, hxn, by simp only; omega, htot⟩ ?_
 clear hxm hm hwd hl hk2 hm2 hk1 hxn hmk hnm hsh htot st hkw hn
 rintro ⟨v, l, x, m⟩ hp ⟨st, hxm, hl, htot⟩
 simp only at st hxm hl htot ⊢
 refine X_seq (X_seq (X_reg (XV rfl rfl rfl (XR_a (op_nilCheck rfl) rfl rfl ?_))))
 first | refine XR_a (op_field0 rfl rfl) rfl rfl ?_ | refine XR_a (op_fieldn rfl rfl) rfl rfl ?_
 refine XR_a (op_ld (by first | assumption | exact st.cell 0 rfl rfl | exact st.cell 1 rfl rfl | exact st.cell 2 rfl rfl | exact st.cell 3 rfl rfl) rfl rfl rfl) rfl rfl ?_
 refine XR_a (op_geq rfl rfl) rfl rfl ?_
 refine XR_nil ?_
 refine X_if rfl (fun h => ?_) (fun h => ?_)
 ·obtain ⟨m, rfl⟩ : ∃ m', m = 8 + m' := ⟨m - 8, by omega⟩
  refine X_skip (X_block (X_seq ?_))
  refine X_draw byKind (by kernel_rfl) (by kernel_rfl) ?_
  refine XV rfl rfl rfl (XV rfl rfl rfl (XR_a (op_nilCheck rfl) rfl rfl ?_))
  first | refine XR_a (op_field0 rfl rfl) rfl rfl ?_ | refine XR_a (op_fieldn rfl rfl) rfl rfl ?_
  refine XR_a (op_ld (by first | assumption | exact st.cell 0 rfl rfl | exact st.cell 1 rfl rfl | exact st.cell 2 rfl rfl | exact st.cell 3 rfl rfl) rfl rfl rfl) rfl rfl ?_
  refine XV rfl rfl rfl (XR_a (op_nilCheck rfl) rfl rfl ?_)
  first | refine XR_a (op_field0 rfl rfl) rfl rfl ?_ | refine XR_a (op_fieldn rfl rfl) rfl rfl ?_
  refine XR_a (op_ld (by first | assumption | exact st.cell 0 rfl rfl | exact st.cell 1 rfl rfl | exact st.cell 2 rfl rfl | exact st.cell 3 rfl rfl) rfl rfl rfl) rfl rfl ?_
  refine XR_a (op_convU rfl rfl rfl) rfl rfl ?_
  refine XR_as (byteV (UInt8.ofNat x)) (by simp [byteV, IntKind.bits]) ?_
  refine XR_ga (opl_var1 rfl rfl rfl) rfl rfl rfl (fun _ _ ⟨_, _, e, _⟩ => e) ?_
  rintro _ hp ⟨A, rfl, hx, hrd⟩
  have st := st.ext hx
  refine XR_wa (opl_append st 1 rfl (hrd) (rfl) (by simp [Value.one, byteV]) (by simp; omega) rfl rfl rfl rfl rfl rfl rfl) rfl rfl rfl fun v hp st => ?_
  simp only [List.set_cons_zero, List.set_cons_succ] at st
  refine XR_a (op_nilCheck rfl) rfl rfl ?_
  first | refine XR_a (op_field0 rfl rfl) rfl rfl ?_ | refine XR_a (op_fieldn rfl rfl) rfl rfl ?_
  refine XR_wn (opl_store_pt st 0 rfl rfl rfl rfl rfl (row_one st 1 rfl)) rfl rfl fun _ hp st => ?_
  simp only [List.set_cons_zero, List.set_cons_succ] at st
  refine XR_nil (X_seq (X_reg (XV rfl rfl rfl (XR_a (op_nilCheck rfl) rfl rfl ?_))))
  first | refine XR_a (op_field0 rfl rfl) rfl rfl ?_ | refine XR_a (op_fieldn rfl rfl) rfl rfl ?_
  refine XR_a (op_ld (by first | assumption | exact st.cell 0 rfl rfl | exact st.cell 1 rfl rfl | exact st.cell 2 rfl rfl | exact st.cell 3 rfl rfl) rfl rfl rfl) rfl rfl ?_
  first | refine XR_a (op_shrC 8 rfl rfl (by decide)) rfl rfl ?_ | refine XR_a (op_shrN 8 rfl rfl (by decide)) rfl rfl ?_
  refine XR_a (op_nilCheck rfl) rfl rfl ?_
  first | refine XR_a (op_field0 rfl rfl) rfl rfl ?_ | refine XR_a (op_fieldn rfl rfl) rfl rfl ?_
  refine XR_wn (opl_store_pt st 0 rfl rfl rfl rfl rfl (rfl)) rfl rfl fun _ hp st => ?_
  simp only [List.set_cons_zero, List.set_cons_succ] at st
  refine XR_nil (X_reg (XV rfl rfl rfl (XR_a (op_nilCheck rfl) rfl rfl ?_)))
  first | refine XR_a (op_field0 rfl rfl) rfl rfl ?_ | refine XR_a (op_fieldn rfl rfl) rfl rfl ?_
  refine XR_a (op_ld (by first | assumption | exact st.cell 0 rfl rfl | exact st.cell 1 rfl rfl | exact st.cell 2 rfl rfl | exact st.cell 3 rfl rfl) rfl rfl rfl) rfl rfl ?_
  refine XR_a (op_subN (n := 8) rfl rfl (by omega) (by simp only [inK]; omega)) rfl rfl ?_
  refine XR_a (op_nilCheck rfl) rfl rfl ?_
  first | refine XR_a (op_field0 rfl rfl) rfl rfl ?_ | refine XR_a (op_fieldn rfl rfl) rfl rfl ?_
  refine XR_wn (opl_store_pt st 0 rfl rfl rfl rfl rfl (rfl)) rfl rfl fun _ hp st => ?_
  simp only [List.set_cons_zero, List.set_cons_succ] at st
  refine XR_nil (X_blk ?_)
  simp only [List.set_cons_zero, List.set_cons_succ, Nat.add_sub_cancel_left] at st
  rw [← List.map_singleton (f := byteV), ← List.map_append] at st
  refine X_again (v, l ++ [UInt8.ofNat x], x / 2 ^ 8, m) (.cons rfl (.nil _)) ⟨st, ?_, ?_, ?_⟩ ?_
  ·simp only
   rw [Nat.pow_add] at hxm
   exact Nat.div_lt_of_lt_mul hxm
  ·simp only [List.length_append, List.length_singleton]; omega
  ·simp only
   rw [show 2 ^ 8 = 256 by rfl, bitsB_snoc]; exact htot
  ·simp only; omega
 ·refine X_exit rfl ?_
  refine X_end .nil ?_
  refine ⟨rfl, ?_⟩
  rw [← htot]
  exact st.unwr hxm (by omega)
theorem wbytes_spec {B p : Nat} {bs : List Bool} {F : List Res} {h0 : Heap} (sw : St B h0 h0 (wrR p bs :: F)) (hb : bs.length ≤ 1099511627776) :
  Ret Try.prog 20 [.pointer (some ⟨p, 0, none⟩)] h0 fun v h' => St h0.size h0 h' [row 5 1 v ((pack bs).map byteV)] := by
 obtain ⟨vb, l, x, m, hxm, hm, hbs, sw⟩ := sw.wr
 have c0 := sw.cell 0 (i := 0) rfl rfl
 have c1 := sw.cell 0 (i := 1) rfl rfl
 have c2 := sw.cell 0 (i := 2) rfl rfl
 obtain ⟨A, n, c, rfl, hlen, hnc, hcm, hrd0⟩ := sw.row 1 rfl
 have hlen' : l.length = n := by simpa using hlen
 have hbl : bs.length = 8 * l.length + m := by rw [hbs, List.length_append, bitsB_length, bitsN_length]
 have hp0 := pack_rest m x hm hxm
 refine ret_of_X Try.func20 rfl rfl fun w0 hw0 => ?_
 simp only [argE, Nat.zero_add, Nat.reduceAdd]
 refine X_seq (X_reg (XA rfl rfl rfl (XR_nil (X_seq (X_seq (X_reg (XV rfl rfl rfl ?_)))))))
 refine XR_a (op_ptr_nil rfl rfl rfl) rfl rfl ?_
 refine XR_nil (X_else rfl (X_skip (X_seq (X_reg ?_))))
 refine XR_wa (opl_lit0 rfl) rfl rfl rfl ?_
 rintro v hp hnew
 have st := (St.start h0).new hnew
 refine XV rfl rfl rfl (XR_a (op_nilCheck rfl) rfl rfl ?_)
 first | refine XR_a (op_field0 rfl rfl) rfl rfl ?_ | refine XR_a (op_fieldn rfl rfl) rfl rfl ?_
 refine XR_a (op_ld (cellH_ext st.low c0) rfl rfl rfl) rfl rfl ?_
 refine XR_wa (opl_append st 0 rfl (hrd0.ext st.low) (hlen) (one_bytes _) (by simp; omega) rfl rfl rfl rfl rfl rfl rfl) rfl rfl rfl fun v hp st => ?_
 simp only [List.set_cons_zero, List.set_cons_succ] at st
 refine XA rfl rfl rfl (XR_nil (X_seq (X_seq (X_reg (XV rfl rfl rfl (XR_a (op_nilCheck rfl) rfl rfl ?_))))))
 first | refine XR_a (op_field0 rfl rfl) rfl rfl ?_ | refine XR_a (op_fieldn rfl rfl) rfl rfl ?_
 refine XR_a (op_ld (cellH_ext st.low c2) rfl rfl rfl) rfl rfl ?_
 refine XR_a (op_gtr rfl rfl) rfl rfl ?_
 refine XR_nil ?_
 refine X_if rfl (fun h => ?_) (fun h => ?_)
 ·refine X_reg (XV rfl rfl rfl (XV rfl rfl rfl (XR_a (op_nilCheck rfl) rfl rfl ?_)))
  first | refine XR_a (op_field0 rfl rfl) rfl rfl ?_ | refine XR_a (op_fieldn rfl rfl) rfl rfl ?_
  refine XR_a (op_ld (cellH_ext st.low c1) rfl rfl rfl) rfl rfl ?_
  refine XR_a (op_convU rfl rfl rfl) rfl rfl ?_
  refine XR_as (byteV (UInt8.ofNat x)) (by simp [byteV, IntKind.bits]) ?_
  refine XR_wa (opl_var1 rfl rfl rfl) rfl rfl rfl ?_
  rintro _ hp ⟨A, rfl, hx, hrd⟩
  have st := st.ext hx
  refine XR_wa (opl_append st 0 rfl (hrd) (rfl) (by simp [Value.one, byteV]) (by simp; omega) rfl rfl rfl rfl rfl rfl rfl) rfl rfl rfl fun v hp st => ?_
  simp only [List.set_cons_zero, List.set_cons_succ] at st
  refine XA rfl rfl rfl (XR_nil (X_seq (X_reg (XV rfl rfl rfl (XA rfl rfl rfl (XR_nil ?_))))))
  refine X_ret (.cons (.tmp rfl) .nil) ?_
  rw [if_neg (by omega)] at hp0
  rw [hbs, pack_bits, hp0, List.map_append]
  exact st
 ·refine X_skip (X_seq (X_reg (XV rfl rfl rfl (XA rfl rfl rfl (XR_nil ?_)))))
  refine X_ret (.cons (.tmp rfl) .nil) ?_
  rw [if_pos (by omega)] at hp0
  rw [hbs, pack_bits, hp0, List.append_nil]
  exact st
theorem wlen_spec {B p : Nat} {bs : List Bool} {F : List Res} {h0 : Heap} (sw : St B h0 h0 (wrR p bs :: F)) (hb : bs.length ≤ 1099511627776) :
  Ret Try.prog 17 [.pointer (some ⟨p, 0, none⟩)] h0 fun v h' => v = .int .i64 (bs.length : Nat) ∧ h0 = h' := by
 obtain ⟨vb, l, x, m, hxm, hm, hbs, st⟩ := sw.wr
 obtain ⟨A, n, c, rfl, hlen, hnc, hcm, hrd0⟩ := st.row 1 rfl
 have hlen' : l.length = n := by simpa using hlen
 have hbl : bs.length = 8 * l.length + m := by rw [hbs, List.length_append, bitsB_length, bitsN_length]
 refine ret_of_X Try.func17 rfl rfl fun w0 hw0 => ?_
 simp only [argE, Nat.zero_add, Nat.reduceAdd]
 refine X_seq (X_reg (XA rfl rfl rfl (XR_nil (X_seq (X_seq (X_reg (XV rfl rfl rfl ?_)))))))
 refine XR_a (op_ptr_nil rfl rfl rfl) rfl rfl ?_
 refine XR_nil (X_else rfl (X_skip (X_seq ?_)))
 refine X_draw byKind (by kernel_rfl) (by kernel_rfl) ?_
 refine XV rfl rfl rfl (XR_a (op_nilCheck rfl) rfl rfl ?_)
 first | refine XR_a (op_field0 rfl rfl) rfl rfl ?_ | refine XR_a (op_fieldn rfl rfl) rfl rfl ?_
 refine XR_a (op_ld (by first | assumption | exact st.cell 0 rfl rfl | exact st.cell 1 rfl rfl | exact st.cell 2 rfl rfl | exact st.cell 3 rfl rfl) rfl rfl rfl) rfl rfl ?_
 refine XR_a (op_len rfl rfl rfl) rfl rfl ?_
 refine XR_a (op_mulN (m := 8) rfl rfl (by simp only [inK]; omega)) rfl rfl ?_
 refine XV rfl rfl rfl (XR_a (op_nilCheck rfl) rfl rfl ?_)
 first | refine XR_a (op_field0 rfl rfl) rfl rfl ?_ | refine XR_a (op_fieldn rfl rfl) rfl rfl ?_
 refine XR_a (op_ld (by first | assumption | exact st.cell 0 rfl rfl | exact st.cell 1 rfl rfl | exact st.cell 2 rfl rfl | exact st.cell 3 rfl rfl) rfl rfl rfl) rfl rfl ?_
 first | refine XR_a (op_addN rfl rfl (by simp only [inK]; omega)) rfl rfl ?_ | refine XR_a (op_addI rfl rfl (by simp only [inK]; omega)) rfl rfl ?_ | refine XR_a (op_add rfl rfl) rfl rfl ?_
 refine XA rfl rfl rfl (XR_nil ?_)
 refine X_ret (.cons (.tmp rfl) .nil) ?_
 refine ⟨?_, rfl⟩
 rw [hbl, hlen']; rfl
end Go.Bn
end

section
set_option linter.unusedVariables false
set_option linter.unusedSimpArgs false
namespace Go.Bn
def numB (bs : List Bool) (at_ k : Nat) : Nat := valB ((bs.drop at_).take k)
theorem numB_lt (bs : List Bool) (at_ k : Nat) : numB bs at_ k < 2 ^ k :=
 Nat.lt_of_lt_of_le (valB_lt _) (Nat.pow_le_pow_right (by omega) (by rw [List.length_take]; omega))
theorem bitsB_take (l : List UInt8) (i : Nat) : bitsB (l.take i) = (bitsB l).take (8 * i) := by
 induction l generalizing i with
 | nil => simp [bitsB]
 | cons b r ih =>
  cases i with
  | zero => simp [bitsB]
  | succ i =>
   have e : ∀ r, bitsB (b :: r) = bitsN 8 b.toNat ++ bitsB r := by intro r; simp [bitsB]
   rw [List.take_succ_cons, e, e, ih, List.take_append, bitsN_length, List.take_of_length_le (l := bitsN 8 b.toNat) (by rw [bitsN_length]; omega), show 8 * (i + 1) - 8 = 8 * i by omega]
theorem bitsB_drop (l : List UInt8) (i : Nat) : bitsB (l.drop i) = (bitsB l).drop (8 * i) := by
 induction l generalizing i with
 | nil => simp [bitsB]
 | cons b r ih =>
  cases i with
  | zero => simp [bitsB]
  | succ i =>
   have e : ∀ r, bitsB (b :: r) = bitsN 8 b.toNat ++ bitsB r := by intro r; simp [bitsB]
   rw [List.drop_succ_cons, e, ih, List.drop_append, bitsN_length, List.drop_of_length_le (l := bitsN 8 b.toNat) (by rw [bitsN_length]; omega), show 8 * (i + 1) - 8 = 8 * i by omega, List.nil_append]
theorem peekV (l : List UInt8) (at_ k : Nat) (hk : k ≤ 32) : valB (bitsB ((l.drop (at_ / 8)).take 5)) / 2 ^ (at_ % 8) % 2 ^ k = numB (bitsB l) at_ k := by
 rw [← valB_drop, ← valB_take, bitsB_take, bitsB_drop, List.drop_take, List.take_take, List.drop_drop, numB]
 congr 2
 ·omega
 ·congr 1; omega
theorem valB_snoc8 (l : List UInt8) (b : UInt8) : valB (bitsB (l ++ [b])) = valB (bitsB l) + b.toNat * 2 ^ (8 * l.length) := by
 have hb := b.toNat_lt
 rw [bitsB_append, valB_append, bitsB_length, Nat.mul_comm]
 congr 1
 simp only [bitsB, List.flatMap_cons, List.flatMap_nil, List.append_nil, valB_bitsN]
 rw [Nat.mod_eq_of_lt (by omega)]
theorem valB_bytes_lt (l : List UInt8) : valB (bitsB l) < 2 ^ (8 * l.length) := by
 have := valB_lt (bitsB l)
 rwa [bitsB_length] at this
theorem numB_succ (bs : List Bool) (at_ i : Nat) (h : at_ + i < bs.length) : numB bs at_ (i + 1) = numB bs at_ i + 2 ^ i * (bs[at_ + i]).toNat := by
 unfold numB
 have hl : i < (bs.drop at_).length := by rw [List.length_drop]; omega
 rw [List.take_succ_eq_append_getElem hl, valB_append, List.length_take, Nat.min_eq_left (by omega)]
 simp [valB]
theorem pack_short (bs : List Bool) (h : bs.length < 8) : bitsB (pack bs) = bs ++ List.replicate ((8 - bs.length % 8) % 8) false := by
 have h1 := pack_rest bs.length (valB bs) h (valB_lt bs)
 rw [bitsN_valB] at h1
 rw [h1]
 split
 ·rename_i h0
  rw [List.length_eq_zero_iff.1 h0]; rfl
 ·rename_i h0
  have hv := valB_lt bs
  have hp : 2 ^ bs.length ≤ 128 := Nat.le_trans (Nat.pow_le_pow_right (by omega) (show bs.length ≤ 7 by omega)) (by decide)
  have e : bitsB [UInt8.ofNat (valB bs)] = bitsN 8 (valB bs) := by
   simp only [bitsB, List.flatMap_cons, List.flatMap_nil, List.append_nil]
   exact bitsN_congr 8 _ _ (by simp)
  have e3 := bitsN_add bs.length (8 - bs.length) (valB bs)
  rw [show bs.length + (8 - bs.length) = 8 by omega, bitsN_valB, Nat.div_eq_of_lt hv, bitsN_zero] at e3
  rw [e, e3]
  congr 2; omega
theorem bitsB_pack (bs : List Bool) : bitsB (pack bs) = bs ++ List.replicate ((8 - bs.length % 8) % 8) false := by
 induction hn : bs.length using Nat.strongRecOn generalizing bs with
 | _ n ih =>
  subst hn
  by_cases h : bs.length < 8
  ·exact pack_short bs h
  ·have e : bs = bitsN 8 (UInt8.ofNat (valB (bs.take 8))).toNat ++ bs.drop 8 := by
    have h8 : (bs.take 8).length = 8 := by rw [List.length_take]; omega
    have hv := valB_lt (bs.take 8)
    have h1 := bitsN_valB (bs.take 8)
    rw [h8] at h1 hv
    rw [show (UInt8.ofNat (valB (bs.take 8))).toNat = valB (bs.take 8) by simp; omega, h1, List.take_append_drop]
   have hd : (bs.drop 8).length = bs.length - 8 := by rw [List.length_drop]
   have hih := ih (bs.drop 8).length (by omega) (bs.drop 8) rfl
   generalize UInt8.ofNat (valB (bs.take 8)) = b at e
   have hlen : bs.length = 8 + (bs.drop 8).length := by omega
   generalize bs.drop 8 = r at *
   subst e
   rw [pack_step]
   have e2 : bitsB (b :: pack r) = bitsN 8 b.toNat ++ bitsB (pack r) := by simp [bitsB]
   rw [e2, hih, List.append_assoc]
   congr 3
   rw [hlen]; omega
theorem pack_get (bs : List Bool) (i : Nat) (h : i < (pack bs).length) : (pack bs)[i] = UInt8.ofNat (numB bs (8 * i) 8) := by
 simp [pack, numB]
theorem numB_zero (bs : List Bool) (a : Nat) : numB bs a 0 = 0 := by simp [numB, valB]
theorem numB_cut (bs : List Bool) (a k j : Nat) (h : bs.length ≤ a + k) (hj : k ≤ j) : numB bs a j = numB bs a k := by
 unfold numB
 rw [List.take_of_length_le (by rw [List.length_drop]; omega), List.take_of_length_le (by rw [List.length_drop]; omega)]
end Go.Bn
end

section
set_option linter.unusedVariables false
set_option linter.unusedSimpArgs false
set_option maxHeartbeats 4000000
set_option maxRecDepth 20000
namespace Go.Bn
open Go Proofs
@[reducible] def rdG (p : Nat) (A : Option Addr) (m c at_ : Nat) : Res := pt p 86 [.slice A m c, .int .i64 (at_ : Int)]
theorem rnew_spec {m c : Nat} {A : Option Addr} {h0 : Heap} : Ret Try.prog 19 [.slice A m c] h0 fun v h' => ∃ p, v = .pointer (some ⟨p, 0, none⟩) ∧ St h0.size h0 h' [rdG p A m c 0] := by
 refine ret_of_X Try.func19 rfl rfl fun w0 hw0 => ?_
 simp only [argE, Nat.zero_add, Nat.reduceAdd]
 have st := St.start h0
 refine X_seq (X_reg (XA rfl rfl rfl (XR_nil (X_seq (X_reg (XV rfl rfl rfl ?_))))))
 refine XR_a (op_build (ps := [(0, .slice A m c)]) (cs := #[.slice A m c, .int .i64 0]) rfl rfl) rfl rfl ?_
 refine XR_wa (opl_bx rfl rfl) rfl rfl rfl ?_
 rintro _ hp ⟨p, rfl, hnew⟩
 have st := st.new hnew
 refine XA rfl rfl rfl (XR_nil ?_)
 refine X_ret (.cons (.tmp rfl) .nil) ?_
 exact ⟨_, rfl, st⟩
theorem rleft_spec {p m c a : Nat} {A : Option Addr} {h0 : Heap} (c0 : cellH h0 ⟨p, 0, none⟩ = some (.slice A m c)) (c1 : cellH h0 ⟨p, 1, none⟩ = some (.int .i64 (a : Int))) (hm : m ≤ 1099511627776) (ha : a ≤ 8 * m) :
  Ret Try.prog 121 [.pointer (some ⟨p, 0, none⟩)] h0 fun v h' => v = .int .i64 (8 * m - a : Nat) ∧ h0 = h' := by
 refine ret_of_X Try.func121 rfl rfl fun w0 hw0 => ?_
 simp only [argE, Nat.zero_add, Nat.reduceAdd]
 refine X_seq (X_reg (XA rfl rfl rfl (XR_nil (X_seq (X_seq (X_reg (XV rfl rfl rfl ?_)))))))
 refine XR_a (op_ptr_nil rfl rfl rfl) rfl rfl ?_
 refine XR_nil (X_else rfl (X_skip (X_seq ?_)))
 refine X_draw byKind (by kernel_rfl) (by kernel_rfl) ?_
 refine XV rfl rfl rfl (XR_a (op_nilCheck rfl) rfl rfl ?_)
 first | refine XR_a (op_field0 rfl rfl) rfl rfl ?_ | refine XR_a (op_fieldn rfl rfl) rfl rfl ?_
 refine XR_a (op_ld (by first | assumption | exact st.cell 0 rfl rfl | exact st.cell 1 rfl rfl | exact st.cell 2 rfl rfl | exact st.cell 3 rfl rfl) rfl rfl rfl) rfl rfl ?_
 refine XR_a (op_len rfl rfl rfl) rfl rfl ?_
 refine XR_a (op_mulN (m := 8) rfl rfl (by simp only [inK]; omega)) rfl rfl ?_
 refine XV rfl rfl rfl (XR_a (op_nilCheck rfl) rfl rfl ?_)
 first | refine XR_a (op_field0 rfl rfl) rfl rfl ?_ | refine XR_a (op_fieldn rfl rfl) rfl rfl ?_
 refine XR_a (op_ld (by first | assumption | exact st.cell 0 rfl rfl | exact st.cell 1 rfl rfl | exact st.cell 2 rfl rfl | exact st.cell 3 rfl rfl) rfl rfl rfl) rfl rfl ?_
 first | refine XR_a (op_subN rfl rfl (by omega) (by simp only [inK]; omega)) rfl rfl ?_ | refine XR_a (op_subI rfl rfl (by simp only [inK]; omega)) rfl rfl ?_ | refine XR_a (op_sub rfl rfl) rfl rfl ?_
 refine XA rfl rfl rfl (XR_nil ?_)
 refine X_ret (.cons (.tmp rfl) .nil) ?_
 exact ⟨rfl, rfl⟩
theorem rat_spec {p a : Nat} {h0 : Heap} (c1 : cellH h0 ⟨p, 1, none⟩ = some (.int .i64 (a : Int))) :
  Ret Try.prog 23 [.pointer (some ⟨p, 0, none⟩)] h0 fun v h' => v = .int .i64 (a : Nat) ∧ h0 = h' := by
 refine ret_of_X Try.func23 rfl rfl fun w0 hw0 => ?_
 simp only [argE, Nat.zero_add, Nat.reduceAdd]
 refine X_seq (X_reg (XA rfl rfl rfl (XR_nil (X_seq (X_seq (X_reg (XV rfl rfl rfl ?_)))))))
 refine XR_a (op_ptr_nil rfl rfl rfl) rfl rfl ?_
 refine XR_nil (X_else rfl (X_skip (X_seq (X_reg (XV rfl rfl rfl (XR_a (op_nilCheck rfl) rfl rfl ?_))))))
 first | refine XR_a (op_field0 rfl rfl) rfl rfl ?_ | refine XR_a (op_fieldn rfl rfl) rfl rfl ?_
 refine XR_a (op_ld (by first | assumption | exact st.cell 0 rfl rfl | exact st.cell 1 rfl rfl | exact st.cell 2 rfl rfl | exact st.cell 3 rfl rfl) rfl rfl rfl) rfl rfl ?_
 refine XA rfl rfl rfl (XR_nil ?_)
 refine X_ret (.cons (.tmp rfl) .nil) ?_
 exact ⟨rfl, rfl⟩
theorem rpeek_spec {p m c a : Nat} {k : Int} {A : Option Addr} {l : List UInt8} {h0 : Heap} (c0 : cellH h0 ⟨p, 0, none⟩ = some (.slice A m c)) (c1 : cellH h0 ⟨p, 1, none⟩ = some (.int .i64 (a : Int)))
  (hr : Rd h0 A (l.map byteV)) (hl : l.length = m) (hm : m ≤ 1099511627776) (ha : a ≤ 8 * m) :
  Ret Try.prog 122 [.pointer (some ⟨p, 0, none⟩), .int .i64 k] h0 fun v h' => v = .int .u32 (numB (bitsB l) a (wd 32 k) : Nat) ∧ h0 = h' := by
 have hwd := wd_le 32 k
 have hfin := peekV l a (wd 32 k) hwd
 have hnlt := numB_lt (bitsB l) a (wd 32 k)
 refine ret_of_X Try.func122 rfl rfl fun w0 hw0 => ?_
 simp only [argE, Nat.zero_add, Nat.reduceAdd]
 refine X_seq (X_reg (XA rfl rfl rfl (XR_nil (X_seq (X_seq (X_reg (XV rfl rfl rfl ?_)))))))
 refine XR_a (op_ptr_nil rfl rfl rfl) rfl rfl ?_
 refine XR_nil (X_else rfl (X_skip (X_seq (X_reg (XV rfl rfl rfl ?_)))))
 refine XR_wa (opl_call (bwidth_spec k _) rfl (by kernel_rfl)) rfl rfl rfl ?_
 rintro _ _ ⟨rfl, rfl⟩
 generalize wd 32 k = kw at *
 have hk2 : 2 ^ kw ≤ 4294967296 := Nat.le_trans (Nat.pow_le_pow_right (by omega) hwd) (by decide)
 have hk1 : 1 ≤ 2 ^ kw := Nat.two_pow_pos kw
 refine XA rfl rfl rfl (XR_nil (X_seq (X_reg (XA rfl rfl rfl (XR_nil (X_seq (X_seq ?_)))))))
 refine X_draw (butAt [(4, .pure)]) (by kernel_rfl) (by kernel_rfl) ?_
 refine XV rfl rfl rfl (XR_a (op_nilCheck rfl) rfl rfl ?_)
 first | refine XR_a (op_field0 rfl rfl) rfl rfl ?_ | refine XR_a (op_fieldn rfl rfl) rfl rfl ?_
 refine XR_a (op_ld (by first | assumption | exact st.cell 0 rfl rfl | exact st.cell 1 rfl rfl | exact st.cell 2 rfl rfl | exact st.cell 3 rfl rfl) rfl rfl rfl) rfl rfl ?_
 first | refine XR_a (op_quoN (n := 8) rfl rfl (by omega) (by simp only [inK]; omega)) rfl rfl ?_ | refine XR_a (op_quoI rfl rfl (by omega) (by omega) (by simp only [inK]; omega)) rfl rfl ?_ | refine XR_a (op_quo rfl rfl (by omega)) rfl rfl ?_
 refine XA rfl rfl rfl (XA rfl rfl rfl (XR_nil (X_block ?_)))
 refine X_loop (fun s => 5 - s) (fun s => [(0, .pointer (some ⟨p, 0, none⟩)), (5, .int .i64 (kw : Int)), (6, .int .u64 (valB (bitsB ((l.drop (a / 8)).take s)) : Nat)), (7, .int .i64 (s : Int)), (8, .int .i64 (a / 8 : Nat))])
  (fun (s : Nat) hp => h0 = hp ∧ s ≤ 5)
  0 (.cons rfl (.cons rfl (.cons (by simp [bitsB, valB]; rfl) (.cons rfl (.cons rfl (.nil _)))))) ⟨rfl, by omega⟩ ?_
 rintro i hp ⟨rfl, hi⟩
 refine X_seq (X_seq (X_reg (XV rfl rfl rfl ?_)))
 refine XR_a (op_lss rfl rfl) rfl rfl ?_
 refine XV rfl rfl rfl ?_
 refine XR_if 20 rfl (fun h => ?_) (fun h => ?_)
 ·refine XV rfl rfl rfl (XV rfl rfl rfl ?_)
  first | refine XR_a (op_addN rfl rfl (by simp only [inK]; omega)) rfl rfl ?_ | refine XR_a (op_addI rfl rfl (by simp only [inK]; omega)) rfl rfl ?_ | refine XR_a (op_add rfl rfl) rfl rfl ?_
  refine XV rfl rfl rfl (XR_a (op_nilCheck rfl) rfl rfl ?_)
  first | refine XR_a (op_field0 rfl rfl) rfl rfl ?_ | refine XR_a (op_fieldn rfl rfl) rfl rfl ?_
  refine XR_a (op_ld (by first | assumption | exact st.cell 0 rfl rfl | exact st.cell 1 rfl rfl | exact st.cell 2 rfl rfl | exact st.cell 3 rfl rfl) rfl rfl rfl) rfl rfl ?_
  refine XR_a (op_len rfl rfl rfl) rfl rfl ?_
  refine XR_a (op_lss rfl rfl) rfl rfl ?_
  refine XR_a (op_pick_t rfl rfl) rfl rfl (XR_nil ?_)
  refine X_if rfl (fun h => ?_) (fun h => ?_)
  ·have hlt : a / 8 + i < l.length := by omega
   obtain ⟨b, o, rfl, hc⟩ := hr.at_ (by rw [List.length_map]; omega)
   have hcell := hc (a / 8 + i) (byteV l[a / 8 + i]) (by simp [hlt])
   have hstep : (l.drop (a / 8)).take (i + 1) = (l.drop (a / 8)).take i ++ [l[a / 8 + i]] := by
    rw [List.take_succ_eq_append_getElem (by simp; omega)]; simp
   have hlen : ((l.drop (a / 8)).take i).length = i := by rw [List.length_take, List.length_drop]; omega
   have hv := valB_bytes_lt ((l.drop (a / 8)).take i)
   have hs := valB_snoc8 ((l.drop (a / 8)).take i) l[a / 8 + i]
   rw [← hstep, hlen] at hs
   rw [hlen] at hv
   have hb := (l[a / 8 + i]).toNat_lt
   have h32 : 2 ^ (8 * i) ≤ 4294967296 := Nat.le_trans (Nat.pow_le_pow_right (by omega) (show 8 * i ≤ 32 by omega)) (by decide)
   generalize valB (bitsB ((l.drop (a / 8)).take i)) = q at hv hs
   generalize l[a / 8 + i] = y at *
   have hprod : y.toNat * 2 ^ (8 * i) ≤ 255 * 4294967296 := Nat.mul_le_mul (by omega) h32
   refine X_skip (X_seq (X_block (X_reg (XV rfl rfl rfl (XV rfl rfl rfl (XR_a (op_nilCheck rfl) rfl rfl ?_))))))
   first | refine XR_a (op_field0 rfl rfl) rfl rfl ?_ | refine XR_a (op_fieldn rfl rfl) rfl rfl ?_
   refine XR_a (op_ld (by first | assumption | exact st.cell 0 rfl rfl | exact st.cell 1 rfl rfl | exact st.cell 2 rfl rfl | exact st.cell 3 rfl rfl) rfl rfl rfl) rfl rfl ?_
   refine XV rfl rfl rfl (XV rfl rfl rfl ?_)
   first | refine XR_a (op_addN rfl rfl (by simp only [inK]; omega)) rfl rfl ?_ | refine XR_a (op_addI rfl rfl (by simp only [inK]; omega)) rfl rfl ?_ | refine XR_a (op_add rfl rfl) rfl rfl ?_
   first | refine XR_a (op_index1 rfl rfl rfl (by omega)) rfl rfl ?_ | refine XR_a (op_index rfl rfl rfl (by omega)) rfl rfl ?_
   refine XR_a (op_ld (hcell) rfl rfl rfl) rfl rfl ?_
   first | refine XR_a (op_convI rfl rfl (by simp only [inK]; omega)) rfl rfl ?_ | refine XR_a (op_convU rfl rfl rfl) rfl rfl ?_ | refine XR_a (op_conv rfl rfl) rfl rfl ?_
   refine XV rfl rfl rfl ?_
   refine XR_a (op_mulN (m := 8) rfl rfl (by simp only [inK]; omega)) rfl rfl ?_
   first | refine XR_a (op_shlC _ rfl rfl (by simp only [IntKind.bits]; omega) (by simp only [inK]; omega)) rfl rfl ?_ | refine XR_a (op_shlI _ rfl rfl (by simp only [IntKind.bits]; omega) (by simp only [inK]; omega)) rfl rfl ?_ | refine XR_a (op_shlN _ rfl rfl (by simp only [IntKind.bits]; omega)) rfl rfl ?_ | refine XR_a (op_shl rfl rfl (by omega)) rfl rfl ?_
   first | refine XR_a (op_orN rfl rfl rfl (by simp only [IntKind.bits]; omega) (by simp only [IntKind.bits]; omega)) rfl rfl ?_ | refine XR_a (op_or rfl rfl) rfl rfl ?_
   rw [or_put hv, ← hs]
   refine XA rfl rfl rfl (XR_nil (X_blk (X_reg (XV rfl rfl rfl ?_))))
   first | refine XR_a (op_addN (n := 1) rfl rfl (by simp only [inK]; omega)) rfl rfl ?_ | refine XR_a (op_addI rfl rfl (by simp only [inK]; omega)) rfl rfl ?_ | refine XR_a (op_add rfl rfl) rfl rfl ?_
   refine XA rfl rfl rfl (XR_nil ?_)
   exact X_again (i + 1) (.cons rfl (.cons rfl (.cons rfl (.cons rfl (.cons rfl (.nil _)))))) ⟨rfl, by omega⟩ (by omega)
  ·refine X_exit rfl (X_seq ?_)
   have hq : valB (bitsB ((l.drop (a / 8)).take i)) = valB (bitsB ((l.drop (a / 8)).take 5)) := by
    first
     | (rw [show i = 5 by omega])
     | (rw [List.take_of_length_le (i := i) (by rw [List.length_drop]; omega), List.take_of_length_le (i := 5) (by rw [List.length_drop]; omega)])
   have hv := valB_bytes_lt ((l.drop (a / 8)).take 5)
   have hv40 : 2 ^ (8 * ((l.drop (a / 8)).take 5).length) ≤ 1099511627776 := Nat.le_trans (Nat.pow_le_pow_right (by omega) (show _ ≤ 40 by rw [List.length_take]; omega)) (by decide)
   rw [hq]
   generalize valB (bitsB ((l.drop (a / 8)).take 5)) = q at *
   have hsh : q / 2 ^ (a % 8) ≤ q := Nat.div_le_self _ _
   refine X_draw byKind (by kernel_rfl) (by kernel_rfl) ?_
   refine XV rfl rfl rfl (XV rfl rfl rfl (XR_a (op_nilCheck rfl) rfl rfl ?_))
   first | refine XR_a (op_field0 rfl rfl) rfl rfl ?_ | refine XR_a (op_fieldn rfl rfl) rfl rfl ?_
   refine XR_a (op_ld (by first | assumption | exact st.cell 0 rfl rfl | exact st.cell 1 rfl rfl | exact st.cell 2 rfl rfl | exact st.cell 3 rfl rfl) rfl rfl rfl) rfl rfl ?_
   first | refine XR_a (op_remN (n := 8) rfl rfl (by omega)) rfl rfl ?_ | refine XR_a (op_remI rfl rfl (by omega) (by omega)) rfl rfl ?_ | refine XR_a (op_rem rfl rfl (by omega)) rfl rfl ?_
   first | refine XR_a (op_shrC _ rfl rfl (by simp only [IntKind.bits]; omega)) rfl rfl ?_ | refine XR_a (op_shrA _ rfl rfl (by simp only [IntKind.bits]; omega)) rfl rfl ?_ | refine XR_a (op_shrN _ rfl rfl (by simp only [IntKind.bits]; omega)) rfl rfl ?_ | refine XR_a (op_shr rfl rfl (by omega)) rfl rfl ?_
   refine XV rfl rfl rfl ?_
   refine XR_a (op_shlC (m := 1) kw rfl rfl (by simp only [IntKind.bits]; omega) (by simp only [inK]; omega)) rfl rfl ?_
   rw [Nat.one_mul]
   refine XR_a (op_subN (n := 1) rfl rfl hk1 (by simp only [inK]; omega)) rfl rfl ?_
   first | refine XR_a (op_andN rfl rfl rfl (by simp only [IntKind.bits]; omega) (by simp only [IntKind.bits]; omega)) rfl rfl ?_ | refine XR_a (op_and rfl rfl) rfl rfl ?_
   rw [Nat.and_two_pow_sub_one_eq_mod, hfin]
   first | refine XR_a (op_convI rfl rfl (by simp only [inK]; omega)) rfl rfl ?_ | refine XR_a (op_convU rfl rfl rfl) rfl rfl ?_ | refine XR_a (op_conv rfl rfl) rfl rfl ?_
   refine XA rfl rfl rfl (XR_nil ?_)
   refine X_ret (.cons (.tmp rfl) .nil) ?_
   exact ⟨rfl, rfl⟩
 ·refine XR_no rfl rfl (XR_no rfl rfl (XR_no rfl rfl (XR_no rfl rfl (XR_no rfl rfl (XR_no rfl rfl (XR_no rfl rfl (XR_no rfl rfl (XR_no rfl rfl (XR_a (op_pick_f rfl rfl) rfl rfl ?_)))))))))
  refine XR_nil (X_else rfl (X_exit rfl (X_seq ?_)))
  have hq : valB (bitsB ((l.drop (a / 8)).take i)) = valB (bitsB ((l.drop (a / 8)).take 5)) := by
   first
    | (rw [show i = 5 by omega])
    | (rw [List.take_of_length_le (i := i) (by rw [List.length_drop]; omega), List.take_of_length_le (i := 5) (by rw [List.length_drop]; omega)])
  have hv := valB_bytes_lt ((l.drop (a / 8)).take 5)
  have hv40 : 2 ^ (8 * ((l.drop (a / 8)).take 5).length) ≤ 1099511627776 := Nat.le_trans (Nat.pow_le_pow_right (by omega) (show _ ≤ 40 by rw [List.length_take]; omega)) (by decide)
  rw [hq]
  generalize valB (bitsB ((l.drop (a / 8)).take 5)) = q at *
  have hsh : q / 2 ^ (a % 8) ≤ q := Nat.div_le_self _ _
  refine X_draw byKind (by kernel_rfl) (by kernel_rfl) ?_
  refine XV rfl rfl rfl (XV rfl rfl rfl (XR_a (op_nilCheck rfl) rfl rfl ?_))
  first | refine XR_a (op_field0 rfl rfl) rfl rfl ?_ | refine XR_a (op_fieldn rfl rfl) rfl rfl ?_
  refine XR_a (op_ld (by first | assumption | exact st.cell 0 rfl rfl | exact st.cell 1 rfl rfl | exact st.cell 2 rfl rfl | exact st.cell 3 rfl rfl) rfl rfl rfl) rfl rfl ?_
  first | refine XR_a (op_remN (n := 8) rfl rfl (by omega)) rfl rfl ?_ | refine XR_a (op_remI rfl rfl (by omega) (by omega)) rfl rfl ?_ | refine XR_a (op_rem rfl rfl (by omega)) rfl rfl ?_
  first | refine XR_a (op_shrC _ rfl rfl (by simp only [IntKind.bits]; omega)) rfl rfl ?_ | refine XR_a (op_shrA _ rfl rfl (by simp only [IntKind.bits]; omega)) rfl rfl ?_ | refine XR_a (op_shrN _ rfl rfl (by simp only [IntKind.bits]; omega)) rfl rfl ?_ | refine XR_a (op_shr rfl rfl (by omega)) rfl rfl ?_
  refine XV rfl rfl rfl ?_
  refine XR_a (op_shlC (m := 1) kw rfl rfl (by simp only [IntKind.bits]; omega) (by simp only [inK]; omega)) rfl rfl ?_
  rw [Nat.one_mul]
  refine XR_a (op_subN (n := 1) rfl rfl hk1 (by simp only [inK]; omega)) rfl rfl ?_
  first | refine XR_a (op_andN rfl rfl rfl (by simp only [IntKind.bits]; omega) (by simp only [IntKind.bits]; omega)) rfl rfl ?_ | refine XR_a (op_and rfl rfl) rfl rfl ?_
  rw [Nat.and_two_pow_sub_one_eq_mod, hfin]
  first | refine XR_a (op_convI rfl rfl (by simp only [inK]; omega)) rfl rfl ?_ | refine XR_a (op_convU rfl rfl rfl) rfl rfl ?_ | refine XR_a (op_conv rfl rfl) rfl rfl ?_
  refine XA rfl rfl rfl (XR_nil ?_)
  refine X_ret (.cons (.tmp rfl) .nil) ?_
  exact ⟨rfl, rfl⟩
theorem rskip_spec {B p m c a : Nat} {k : Int} {A : Option Addr} {F : List Res} {h0 : Heap} (st : St B h0 h0 (rdG p A m c a :: F)) (hm : m ≤ 1099511627776) (ha : a ≤ 8 * m) :
  Ret Try.prog 123 [.pointer (some ⟨p, 0, none⟩), .int .i64 k] h0 fun v h' => v = .bool (decide (wd 32 k ≤ 8 * m - a)) ∧ St B h0 h' (rdG p A m c (if wd 32 k ≤ 8 * m - a then a + wd 32 k else a) :: F) := by
 have hwd := wd_le 32 k
 refine ret_of_X Try.func123 rfl rfl fun w0 hw0 => ?_
 simp only [argE, Nat.zero_add, Nat.reduceAdd]
 refine X_seq (X_reg (XA rfl rfl rfl (XR_nil (X_seq (X_reg (XV rfl rfl rfl ?_))))))
 refine XR_wa (opl_call (bwidth_spec k _) rfl (by kernel_rfl)) rfl rfl rfl ?_
 rintro _ _ ⟨rfl, rfl⟩
 generalize wd 32 k = kw at *
 refine XA rfl rfl rfl (XR_nil (X_seq (X_seq (X_reg (XV rfl rfl rfl ?_)))))
 refine XR_a (op_ptr_nil rfl rfl rfl) rfl rfl ?_
 refine XV rfl rfl rfl (XV rfl rfl rfl (XV rfl rfl rfl ?_))
 refine XR_wa (opl_call (rleft_spec (st.cell 0 rfl rfl) (st.cell 0 rfl rfl) hm ha) rfl (by kernel_rfl)) rfl rfl rfl ?_
 rintro _ _ ⟨rfl, rfl⟩
 refine XR_a (op_gtr rfl rfl) rfl rfl ?_
 refine XR_a (op_pick_f rfl rfl) rfl rfl (XR_nil ?_)
 refine X_if rfl (fun h => ?_) (fun h => ?_)
 ·refine X_seq (X_reg (XA rfl rfl rfl (XR_nil ?_)))
  refine X_ret (.cons (.tmp rfl) .nil) ?_
  rw [if_neg (by omega), decide_eq_false (by omega)]
  exact ⟨rfl, st⟩
 ·refine X_skip (X_seq (X_reg (XV rfl rfl rfl (XR_a (op_nilCheck rfl) rfl rfl ?_))))
  first | refine XR_a (op_field0 rfl rfl) rfl rfl ?_ | refine XR_a (op_fieldn rfl rfl) rfl rfl ?_
  refine XR_a (op_ld (by first | assumption | exact st.cell 0 rfl rfl | exact st.cell 1 rfl rfl | exact st.cell 2 rfl rfl | exact st.cell 3 rfl rfl) rfl rfl rfl) rfl rfl ?_
  refine XV rfl rfl rfl ?_
  first | refine XR_a (op_addN rfl rfl (by simp only [inK]; omega)) rfl rfl ?_ | refine XR_a (op_addI rfl rfl (by simp only [inK]; omega)) rfl rfl ?_ | refine XR_a (op_add rfl rfl) rfl rfl ?_
  refine XR_a (op_nilCheck rfl) rfl rfl ?_
  first | refine XR_a (op_field0 rfl rfl) rfl rfl ?_ | refine XR_a (op_fieldn rfl rfl) rfl rfl ?_
  refine XR_wn (opl_store_pt st 0 rfl rfl rfl rfl rfl (rfl)) rfl rfl fun _ hp st => ?_
  simp only [List.set_cons_zero, List.set_cons_succ] at st
  refine XR_nil (X_seq (X_reg (XA rfl rfl rfl (XR_nil ?_))))
  refine X_ret (.cons (.tmp rfl) .nil) ?_
  rw [if_pos (by omega), decide_eq_true (by omega)]
  exact ⟨rfl, st⟩
theorem rtake_spec {B p m c a : Nat} {k : Int} {A : Option Addr} {l : List UInt8} {F : List Res} {h0 : Heap} (st : St B h0 h0 (rdG p A m c a :: F)) (hr : Rd h0 A (l.map byteV)) (hl : l.length = m) (hm : m ≤ 1099511627776) (ha : a ≤ 8 * m) :
  Ret Try.prog 95 [.pointer (some ⟨p, 0, none⟩), .int .i64 k] h0 fun v h' =>
   v = retVal [.int .u32 ((if wd 32 k ≤ 8 * m - a then numB (bitsB l) a (wd 32 k) else 0 : Nat) : Int), .bool (decide (wd 32 k ≤ 8 * m - a))] ∧ St B h0 h' (rdG p A m c (if wd 32 k ≤ 8 * m - a then a + wd 32 k else a) :: F) := by
 refine ret_of_X Try.func95 rfl rfl fun w0 hw0 => ?_
 simp only [argE, Nat.zero_add, Nat.reduceAdd]
 refine X_seq (X_reg (XA rfl rfl rfl (XA rfl rfl rfl (XR_nil (X_seq (X_reg (XV rfl rfl rfl (XV rfl rfl rfl ?_))))))))
 refine XR_wa (opl_call (rpeek_spec (st.cell 0 rfl rfl) (st.cell 0 rfl rfl) hr hl hm ha) rfl (by kernel_rfl)) rfl rfl rfl ?_
 rintro _ _ ⟨rfl, rfl⟩
 refine XA rfl rfl rfl (XR_nil (X_seq (X_seq (X_reg (XV rfl rfl rfl (XV rfl rfl rfl ?_))))))
 refine XR_wa (opl_call (rskip_spec st hm ha) rfl (by kernel_rfl)) rfl rfl rfl ?_
 rintro _ hp ⟨rfl, st⟩
 first | refine XR_a (op_notd rfl) rfl rfl ?_ | refine XR_a (op_not rfl) rfl rfl ?_
 refine XR_nil ?_
 refine X_if rfl (fun h => ?_) (fun h => ?_)
 ·refine X_seq (X_reg (XA rfl rfl rfl (XA rfl rfl rfl (XR_nil ?_))))
  refine X_ret (.cons (.tmp rfl) (.cons (.tmp rfl) .nil)) ?_
  have hn : ¬ wd 32 k ≤ 8 * m - a := by simpa using h
  rw [if_neg hn] at st
  rw [if_neg hn, if_neg hn, decide_eq_false hn]
  exact ⟨rfl, st⟩
 ·refine X_skip (X_seq (X_reg (XV rfl rfl rfl (XA rfl rfl rfl (XA rfl rfl rfl (XR_nil ?_))))))
  refine X_ret (.cons (.tmp rfl) (.cons (.tmp rfl) .nil)) ?_
  have hn : wd 32 k ≤ 8 * m - a := by simpa using h
  rw [if_pos hn] at st
  rw [if_pos hn, if_pos hn, decide_eq_true hn]
  exact ⟨rfl, st⟩
theorem brow_ref {n : Nat} {k : Int} {h0 : Heap} (hn : n < 4294967296) : Ret Try.prog 72 [.int .u32 (n : Int), .int .i64 k] h0 fun v h' => St h0.size h0 h' [row 5 1 v ((b01 (bitsN (wd 32 k) n)).map byteV)] := by
 have hwd := wd_le 32 k
 refine ret_of_X Try.func72 rfl rfl fun w0 hw0 => ?_
 simp only [argE, Nat.zero_add, Nat.reduceAdd]
 refine X_seq (X_reg (XA rfl rfl rfl (XR_nil (X_seq (X_reg (XA rfl rfl rfl (XR_nil (X_seq (X_seq ?_)))))))))
 refine X_reg (XA rfl rfl rfl (XR_nil (X_block ?_)))
 have st := (St.start h0).nilrow 5 1
 refine X_loop (fun s => 32 - s.1) (fun s => [(0, .int .u32 (n / 2 ^ s.1 : Nat)), (1, .int .i64 k), (5, s.2), (6, .int .i64 (s.1 : Int))])
  (fun (s : Nat × Value) hp => St h0.size h0 hp [row 5 1 s.2 ((b01 (bitsN s.1 n)).map byteV)] ∧ s.1 ≤ wd 32 k)
  (0, _) (.cons (by simp; rfl) (.cons rfl (.cons rfl (.cons rfl (.nil _))))) ⟨st, by simp⟩ ?_
 clear st
 rintro ⟨i, v⟩ hp ⟨st, hi⟩
 simp only at st hi ⊢
 have hle : n / 2 ^ i ≤ n := Nat.div_le_self _ _
 have hq : n / 2 ^ (i + 1) = n / 2 ^ i / 2 := by rw [Nat.pow_succ, Nat.div_div_eq_div_mul]
 have hsn : b01 (bitsN (i + 1) n) = b01 (bitsN i n) ++ [UInt8.ofNat (n / 2 ^ i % 2)] := by rw [bitsN_snoc, b01_append, b01_mod]; rfl
 generalize n / 2 ^ i = q at hle hq hsn ⊢
 refine X_seq (X_seq (X_reg (XV rfl rfl rfl (XV rfl rfl rfl ?_))))
 refine XR_wa (opl_call (bwidth_ref k _) rfl (by kernel_rfl)) rfl rfl rfl ?_
 rintro _ _ ⟨rfl, rfl⟩
 refine XR_a (op_lss rfl rfl) rfl rfl ?_
 refine XR_nil ?_
 refine X_if rfl (fun h => ?_) (fun h => ?_)
 ·refine X_skip (X_seq (X_block (X_seq (X_reg (XV rfl rfl rfl (XV rfl rfl rfl ?_))))))
  first | refine XR_a (op_remN (n := 2) rfl rfl (by omega)) rfl rfl ?_ | refine XR_a (op_remI rfl rfl (by omega) (by omega)) rfl rfl ?_ | refine XR_a (op_rem rfl rfl (by omega)) rfl rfl ?_
  refine XR_a (op_convI rfl rfl (by simp only [inK]; omega)) rfl rfl ?_
  refine XR_as (byteV (UInt8.ofNat (q % 2))) (by simp [byteV]; omega) ?_
  refine XR_wa (opl_var1 rfl rfl rfl) rfl rfl rfl ?_
  rintro _ hp ⟨A, rfl, hx, hrd⟩
  have st := st.ext hx
  refine XR_wa (opl_append st 0 rfl (hrd) (rfl) (by simp [Value.one, byteV]) (by simp [b01_length, bitsN_length]; omega) rfl rfl rfl rfl rfl rfl rfl) rfl rfl rfl fun v hp st => ?_
  simp only [List.set_cons_zero, List.set_cons_succ] at st
  rw [← List.map_singleton (f := byteV), ← List.map_append, ← hsn] at st
  refine XA rfl rfl rfl (XR_nil (X_reg (XV rfl rfl rfl ?_)))
  first | refine XR_a (op_quoN (n := 2) rfl rfl (by omega) (by simp only [inK]; omega)) rfl rfl ?_ | refine XR_a (op_quoI rfl rfl (by omega) (by omega) (by simp only [inK]; omega)) rfl rfl ?_ | refine XR_a (op_quo rfl rfl (by omega)) rfl rfl ?_
  refine XA rfl rfl rfl (XR_nil (X_blk (X_reg (XV rfl rfl rfl ?_))))
  first | refine XR_a (op_addN (n := 1) rfl rfl (by simp only [inK]; omega)) rfl rfl ?_ | refine XR_a (op_addI rfl rfl (by simp only [inK]; omega)) rfl rfl ?_ | refine XR_a (op_add rfl rfl) rfl rfl ?_
  refine XA rfl rfl rfl (XR_nil ?_)
  exact X_again (i + 1, v) (.cons (by simp only [hq]; rfl) (.cons rfl (.cons rfl (.cons rfl (.nil _))))) ⟨st, by simp only; omega⟩ (by simp only; omega)
 ·refine X_exit rfl (X_seq (X_reg (XV rfl rfl rfl (XA rfl rfl rfl (XR_nil ?_)))))
  refine X_ret (.cons (.tmp rfl) .nil) ?_
  obtain rfl : i = wd 32 k := by omega
  exact st
end Go.Bn
end
