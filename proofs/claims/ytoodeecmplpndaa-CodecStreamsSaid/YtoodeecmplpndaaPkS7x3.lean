/- Packed texts of a claim: what its theorem uses, joined. -/
import Derived.Laws.Tables
import Derived.Laws.StructEq
import Derived.Test.YtoodeecmplpndaaProg
import Derived.Scope
import Derived.Test.YtoodeecmplpndaaPkS7x2
section
namespace Go.Bn
open Go
section
variable {P : Program} {E : Env} {hp : Heap} {cl : Cls} {d : Option Tmp} {ty : TypeId} {pos : String} {af : Array Edge} {g : Option (Nat × Bool)}
variable {x y : Operand} {t t' : TypeId}
theorem run_sizeOf_agg {n : Nat} (ht : aggN P t = some n) (w : World) : (sizeOf t).run P w = .ok n w := by
 have key : ∀ i, P.info? t = some i → i.size = n → (sizeOf t).run P w = .ok n w := by
  intro i hi hs
  simp [sizeOf, typeInfo, hi, hs]
 unfold aggN at ht
 split at ht
 ·split at ht
  ·rename_i hi; cases ht; exact key _ hi rfl
  ·cases ht
 ·split at ht
  ·rename_i hi; cases ht; exact key _ hi rfl
  ·cases ht
 ·cases ht
theorem opl_store_pts {B : Nat} {h0 : Heap} {rs : List Res} (st : St B h0 hp rs) (j : Nat) {p o : Nat} {T : TypeId} {cs us : List Value} {ua : Array Value} (hj : rs[j]? = some (pt p T cs)) (hx : ev E x = some (.pointer (some ⟨p, o, none⟩))) (hy : ev E y = some (.agg ua))
  (hu : ua.toList = us) (ht : aggN P t = some us.length) (h1 : ∀ u ∈ us, Value.one u = true) (hle : o + us.length ≤ cs.length) :
  OpL P ⟨d, .store t x y, ty, pos, af, g⟩ E hp (fun _ hp' => St B h0 hp' (rs.set j (pt p T (cs.take o ++ us ++ cs.drop (o + us.length))))) := by
 obtain rfl : ua = us.toArray := by rw [← hu]
 obtain ⟨S, ⟨hS, hb⟩, _⟩ := st.at_ hj
 intro n a w ho hw K hK
 subst hw
 obtain ⟨w', hr, hi, hs, hother, hthere⟩ := run_storeCells (P := P) (p := p) (o := o) us 0 cs.toArray w h1 hb (by simpa using hle) (.inl rfl)
 have hrun : (execOp a.eval ⟨d, .store t x y, ty, pos, af, g⟩).run P w = .ok .skip w' := by
  simp [execOp, ho.eval hx, ho.eval hy, Instr.storeAt, Instr.sureAddr, storeVar, Value.cells, run_sizeOf_agg ht, hr]
 simp only [Oper.wp, hrun, Oper.upon]
 refine hK _ _ hi (st.upd hj ⟨by rw [hs]; exact Nat.le_refl _, fun S' hS' => ?_⟩)
 obtain ⟨hS1, hb1⟩ := hS'
 refine ⟨S', ⟨hS1, ?_⟩, fun k hk => .inl hk, fun k _ hk => hother k (fun e => hk ((hS1 k).2 e))⟩
 rw [hthere]; simp
theorem opl_store_whole {B : Nat} {h0 : Heap} {rs : List Res} (st : St B h0 hp rs) (j : Nat) {p : Nat} {T : TypeId} {cs us : List Value} {ua : Array Value} (hj : rs[j]? = some (pt p T cs)) (hx : ev E x = some (.pointer (some ⟨p, 0, none⟩))) (hy : ev E y = some (.agg ua))
  (hu : ua.toList = us) (ht : aggN P t = some us.length) (h1 : ∀ u ∈ us, Value.one u = true) (hl : us.length = cs.length) :
  OpL P ⟨d, .store t x y, ty, pos, af, g⟩ E hp (fun _ hp' => St B h0 hp' (rs.set j (pt p T us))) := by
 intro n a w ho hw K hK
 refine opl_store_pts st j hj hx hy hu ht h1 (by omega) n a w ho hw K fun v' w' hi h => hK v' w' hi ?_
 simpa [hl] using h
theorem RV_agg {a : Tmp} {p o n : Nat} {vs : List Value} (h : E.get a = some (.pointer (some ⟨p, o, none⟩))) (ht : aggN P t = some n) (hl : vs.length = n) (hc : ∀ j u, vs[j]? = some u → cellH hp ⟨p, o + j, none⟩ = some u) : RV P hp E (.cell a t) (.agg vs.toArray) :=
 .cell h fun w hw => by subst hw; exact run_loadVar_agg ht hl hc
end
theorem St.cells {B : Nat} {h0 hp : Heap} {rs : List Res} (s : St B h0 hp rs) (j : Nat) {p : Nat} {T : TypeId} {cs : List Value} (hj : rs[j]? = some (pt p T cs)) : ∀ i u, cs[i]? = some u → cellH hp ⟨p, 0 + i, none⟩ = some u := by
 intro i u hu
 rw [Nat.zero_add]
 exact s.cell j hj hu
theorem List.set_getElem?_self' {α : Type} {l : List α} {j : Nat} {a : α} (h : l[j]? = some a) : l.set j a = l := by
 obtain ⟨hlt, rfl⟩ := List.getElem?_eq_some_iff.1 h
 exact List.set_getElem_self hlt
section
variable {P : Program} {E : Env} {hp : Heap} {d : Option Tmp} {ty : TypeId} {pos : String} {af : Array Edge} {g : Option (Nat × Bool)}
variable {x : Operand} {t : TypeId}
end
section
variable {P : Program} {E : Env} {hp : Heap} {d : Option Tmp} {ty : TypeId} {pos : String} {af : Array Edge} {g : Option (Nat × Bool)}
variable {x : Operand} {t : TypeId}
theorem opl_lits {e bt len : Nat} {zv : Value} {parts : Array (Nat × Operand)} {ps : List (Nat × Value)} (cs : List Value) (hps : evP E parts.toList = some ps) (ht : sliceI P t = some (e, 1, bt, [zv]))
  (hn : Nat.ble (len * 1) 16777216 = true) (hs : Nat.blt 0 (len * 1) = true) (hc : sliceCells len 1 [zv] ps = some cs.toArray) (hl : cs.length = len * 1) :
  OpL P ⟨d, .buildSlice t len parts, ty, pos, af, g⟩ E hp (fun u hp' => New (row e 1 u cs) hp hp') := by
 intro n a w ho hw K hK
 refine opl_buildSlice hps ht hn hs hc n a w ho hw K fun v' w' hi ⟨h1, h2⟩ => hK v' w' hi ?_
 rw [h1, h2]
 have := Nat.le_of_ble_eq_true hn
 exact new_row hp e 1 len cs hl (by simp only [maxLen]; omega)
end
section
variable {P : Program} {E : Env} {hp : Heap} {cl : Cls} {d : Option Tmp} {ty : TypeId} {pos : String} {af : Array Edge} {g : Option (Nat × Bool)}
variable {x : Operand} {t : TypeId}
end
section
variable {P : Program} {E : Env} {hp : Heap} {cl : Cls} {d : Option Tmp} {ty : TypeId} {pos : String} {af : Array Edge} {g : Option (Nat × Bool)}
variable {x : Operand} {t : TypeId}
theorem op_build {parts : Array (Nat × Operand)} {ps : List (Nat × Value)} {cs : Array Value} (hps : evP E parts.toList = some ps) (h : P.built t ps = some cs) : Op1 cl P ⟨d, .build t parts, ty, pos, af, g⟩ E hp (.agg cs) :=
 .of_pure fun n a ho w' => by
  have hp1 : (parts.map fun (i, x) => (i, a.eval x)).toList = ps := by
   rw [Array.toList_map]; exact ho.parts hps
  have := run_build (P := P) w' t (parts.map fun (i, x) => (i, a.eval x)) cs (by rw [hp1]; exact h)
  simp only [execOp, Sem.run_bind, this, Result.andThen_ok]; rfl
end
end Go.Bn
end

section
set_option linter.unusedVariables false
set_option linter.unusedSimpArgs false
namespace Go.Bn
open Go
section
variable {P : Program} {E : Env} {hp : Heap} {cl : Cls} {d : Option Tmp} {ty : TypeId} {pos : String} {af : Array Edge} {g : Option (Nat × Bool)}
variable {x y : Operand} {t t' : TypeId}
theorem opl_copy {e sz b : Nat} {zs : List Value} {B : Nat} {h0 : Heap} {rs : List Res} (st : St B h0 hp rs) (j : Nat) {gb o n c n' c' m c2 : Nat} {A : Option Addr} {vs news : List Value} (hj : rs[j]? = some (row e sz (.slice (some ⟨gb, 0, none⟩) n c) vs)) (hn : Rd hp A news) (hl : news.length = m * sz)
  (h1 : ∀ u ∈ news, Value.one u = true) (hle : o + min m n' * sz ≤ vs.length) (hx : ev E x = some (.slice (some ⟨gb, o, none⟩) n' c')) (hy : ev E y = some (.slice A m c2)) (ht : sliceI P t = some (e, sz, b, zs)) {ts : Array TypeId} (hts : ts = #[t, t']) :
  OpL P ⟨d, .call ⟨.builtin .copy, #[x, y], ts⟩, ty, pos, af, g⟩ E hp (fun v hp' => v = .int .i64 ((min m n' : Nat) : Int) ∧ St B h0 hp' (rs.set j (row e sz (.slice (some ⟨gb, 0, none⟩) n c) (vs.take o ++ news.take (min m n' * sz) ++ vs.drop (o + min m n' * sz))))) := by
 obtain ⟨S, hr, hSB⟩ := st.at_ hj
 intro k a w ho hw K hK
 subst hw hts
 obtain ⟨i, z, hu, hi, hz, hsz, _, hzc⟩ := sliceI_spec ht
 subst hsz
 rcases hr with ⟨hh, _⟩ | ⟨g', nn, cap, cur, fr, hh, h2, h3, h4, h5, h6, h7, h8, hS⟩
 ·cases hh
 ·cases hh
  have hnl : (news.take (min m n' * i.size)).length = min m n' * i.size := by
   rw [List.length_take, hl]; exact Nat.min_eq_left (Nat.mul_le_mul_right _ (Nat.min_le_left _ _))
  have hcur : vs.length ≤ cur.size := by rw [h7, h5]; exact Nat.mul_le_mul_right _ h3
  obtain ⟨w', hst, hinv, hsz', hoth, hnew⟩ := run_storeCells (P := P) (p := gb) (o := o) (e := e) (fr := fr) (news.take (min m n' * i.size)) 0 cur w (fun u hu => h1 u (List.mem_of_mem_take hu)) h2 (by rw [hnl]; omega) h8
  have hfc : (Builtin.firstCells i.size (min m n') (.slice A m c2)).run P w = .ok (news.take (min m n' * i.size)).toArray w := by
   cases A with
   | none =>
    have hne : news = [] := by
     rcases hn with h | ⟨_, _, h, _⟩
     ·exact h
     ·cases h
    subst hne
    simp [Builtin.firstCells]
   | some ad =>
    refine run_firstCells_some (P := P) w i.size (min m n') ad m c2 _ hnl fun q u hu => ?_
    rw [List.getElem?_take] at hu
    split at hu
    ·exact rd_cell hn rfl q u hu
    ·cases hu
  have hrun : (execOp a.eval ⟨d, .call ⟨.builtin .copy, #[x, y], #[t, t']⟩, ty, pos, af, g⟩).run P w = .ok (.value (.int .i64 ((min m n' : Nat) : Int))) w' := by
   have hm : Nat.min m n' = min m n' := rfl
   simp [execOp, resolve, ho.eval hx, ho.eval hy, invoke, builtin, Builtin.copy_, run_underlying hu, sizeOf, typeInfo, hi, Builtin.lenOf, hm, hfc, hst, goInt]
  simp only [Oper.wp, hrun, Oper.upon]
  refine hK _ _ hinv ⟨rfl, st.upd hj ⟨by rw [hsz']; exact Nat.le_refl _, fun S' hS' => ?_⟩⟩
  have hSg : ∀ k, S' k ↔ k = gb := by
   rcases hS' with ⟨hh, _⟩ | ⟨g', n', cap', cur', fr', hh, _, _, _, _, _, _, _, hS''⟩
   ·cases hh
   ·cases hh; exact hS''
  simp only [Nat.add_zero, hnl] at hnew
  have hle2 : o + min m n' * i.size ≤ cur.size := by omega
  refine ⟨S', .inr ⟨gb, n, c, _, fr, rfl, hnew, h3, h4, ?_, ?_, ?_, ?_, hSg⟩, fun k hk => .inl hk, fun k _ hk => hoth k (fun h => hk ((hSg k).2 h))⟩
  ·simp only [List.size_toArray, List.length_append, List.length_take, List.length_drop, Array.length_toList, hl]
   have : min (min m n' * i.size) (m * i.size) = min m n' * i.size := Nat.min_eq_left (Nat.mul_le_mul_right _ (Nat.min_le_left _ _))
   omega
  ·rw [← h7, ← h6]
   generalize hq : n * i.size = q at *
   apply List.ext_getElem?
   intro r
   have hlen3 : vs.length = q := h7
   have e1 : (cur.toList.take o).length = o := by rw [List.length_take, Array.length_toList]; omega
   have e2 : ((cur.toList.take q).take o).length = o := by rw [List.length_take, List.length_take, Array.length_toList]; omega
   rw [List.getElem?_take]
   have eL : (cur.toList.take q).length = q := by rw [List.length_take, Array.length_toList]; omega
   rw [eL]
   simp only [List.getElem?_append, e1, e2, List.length_append, hnl, List.getElem?_take, List.getElem?_drop]
   by_cases c1 : r < o
   ·simp [c1, show r < o + min m n' * i.size by omega, show r < q by omega]
   ·by_cases c2 : r < o + min m n' * i.size
    ·simp [c1, c2, show r < q by omega, show r - o < min m n' * i.size by omega]
    ·by_cases c3 : r < q
     ·simp [c1, c2, c3, show o + min m n' * i.size + (r - (o + min m n' * i.size)) = r by omega]
     ·simp [c1, c2, c3, show o + min m n' * i.size + (r - (o + min m n' * i.size)) = r by omega]
  ·rw [List.length_append, List.length_append, List.length_take, List.length_drop, hnl, ← h7]; omega
  ·have : ((cur.toList.take o ++ news.take (min m n' * i.size) ++ cur.toList.drop (o + min m n' * i.size)).toArray).size = cur.size := by
    simp only [List.size_toArray, List.length_append, List.length_take, List.length_drop, Array.length_toList, hl]
    have : min (min m n' * i.size) (m * i.size) = min m n' * i.size := Nat.min_eq_left (Nat.mul_le_mul_right _ (Nat.min_le_left _ _))
    omega
   rw [this]; exact h8
theorem run_isAgg_agg {n : Nat} (h : aggN P t = some n) (w : World) : (isAgg t).run P w = .ok true w := by
 unfold aggN at h
 split at h
 ·rename_i fs hu; simp [isAgg, run_underlying hu]
 ·rename_i hu; simp [isAgg, run_underlying hu]
 ·cases h
theorem op_neqH {xs ys : Array Value} {r : Bool} (hx : ev E x = some (.agg xs)) (hy : ev E y = some (.agg ys)) (h : ∀ w : World, (binOp .neq t (.agg xs) (.agg ys)).run P w = .ok (.bool r) w) (hg : P.eqGuardType P.depth t = false) : Op1 cl P ⟨d, .binOp .neq t x y t', ty, pos, af, g⟩ E hp (.bool r) :=
 .of_pure fun n a ho w' => by
  simp only [execOp, ho.eval hx, ho.eval hy, Sem.run_bind, run_eqGuard_agg (P := P) w' .neq t x y xs ys hg, Result.andThen_ok, h]; rfl
end
end Go.Bn
end

section
set_option linter.unusedVariables false
set_option linter.unusedSimpArgs false
namespace Go.Bn
open Go
section
variable {P : Program} {E : Env} {hp : Heap} {cl : Cls} {d : Option Tmp} {ty : TypeId} {pos : String} {af : Array Edge} {g : Option (Nat × Bool)}
variable {x y : Operand} {t t' : TypeId}
end
section
variable {P : Program} {E : Env} {hp : Heap} {cl : Cls} {d : Option Tmp} {ty : TypeId} {pos : String} {af : Array Edge} {g : Option (Nat × Bool)}
variable {x y : Operand} {t t' : TypeId}
theorem opl_copyW {e sz b : Nat} {zs : List Value} {B : Nat} {h0 : Heap} {rs : List Res} (st : St B h0 hp rs) (j : Nat) {n c m c2 : Nat} {A0 A : Option Addr} {vs news : List Value} (hj : rs[j]? = some (row e sz (.slice A0 n c) vs)) (hn : Rd hp A news) (hl : news.length = m * sz) (hv : vs.length = n * sz)
  (h1 : ∀ u ∈ news, Value.one u = true) (hx : ev E x = some (.slice A0 n c)) (hy : ev E y = some (.slice A m c2)) (ht : sliceI P t = some (e, sz, b, zs)) {ts : Array TypeId} (hts : ts = #[t, t']) :
  OpL P ⟨d, .call ⟨.builtin .copy, #[x, y], ts⟩, ty, pos, af, g⟩ E hp (fun v hp' => v = .int .i64 ((min m n : Nat) : Int) ∧ St B h0 hp' (rs.set j (row e sz (.slice A0 n c) (news.take (min m n * sz) ++ vs.drop (min m n * sz))))) := by
 intro k a w ho hw K hK
 obtain ⟨S, hr, _⟩ := st.at_ hj
 rcases hr with ⟨hh, hvs, _⟩ | ⟨gb, n', cap, cur, fr, hh, _⟩
 ·cases hh
  subst hw hts hvs
  obtain ⟨i, z, hu, hi, hz, hsz, _, hzc⟩ := sliceI_spec ht
  have hrun : (execOp a.eval ⟨d, .call ⟨.builtin .copy, #[x, y], #[t, t']⟩, ty, pos, af, g⟩).run P w = .ok (.value (.int .i64 0)) w := by
   have hm : Nat.min m 0 = 0 := Nat.min_zero m
   have hf : (Builtin.firstCells i.size 0 (.slice A m c2)).run P w = .ok #[] w := by
    cases A <;> simp [Builtin.firstCells, loadCells, loadCellsFrom]
   simp [execOp, resolve, ho.eval hx, ho.eval hy, invoke, builtin, Builtin.copy_, run_underlying hu, sizeOf, typeInfo, hi, Builtin.lenOf, hm, hf, goInt]
  simp only [Oper.wp, hrun, Oper.upon]
  refine hK _ _ ⟨rfl, rfl, rfl⟩ ⟨by simp, ?_⟩
  have e1 : news.take (min m 0 * sz) ++ ([] : List Value).drop (min m 0 * sz) = [] := by simp
  rw [e1, List.set_getElem?_self' hj]
  exact st
 ·cases hh
  have := opl_copy (P := P) (E := E) (d := d) (ty := ty) (pos := pos) (af := af) (g := g) (t' := t') st j (o := 0) (n' := n) (c' := c) hj hn hl h1 (by rw [Nat.zero_add, hv]; exact Nat.mul_le_mul_right _ (Nat.min_le_right _ _)) hx hy ht hts k a w ho hw K
  refine this fun v' w' hi h => hK v' w' hi ?_
  simpa using h
end
end Go.Bn
end

section
namespace Go.Bn
open Go
theorem St.row0 {B : Nat} {h0 hp : Heap} {rs : List Res} (s : St B h0 hp rs) (j : Nat) {e sz : Nat} {v : Value} {vs : List Value} (hj : rs[j]? = some (Bn.row e sz v vs)) (hpos : 0 < vs.length) :
  ∃ g n c, v = .slice (some ⟨g, 0, none⟩) n c ∧ vs.length = n * sz ∧ n ≤ c ∧ c ≤ maxLen ∧ Rd hp (some ⟨g, 0, none⟩) vs := by
 obtain ⟨A, n, c, rfl, h1, h2, h3, h4⟩ := s.row j hj
 obtain ⟨S, h, _⟩ := s.at_ hj
 rcases h with ⟨_, hv, _⟩ | ⟨g, n', cap, cur, fr, he, _⟩
 ·subst hv; simp at hpos
 ·cases he
  exact ⟨g, n, c, rfl, h1, h2, h3, h4⟩
theorem St.part {B : Nat} {h0 hp : Heap} {rs : List Res} (s : St B h0 hp rs) (j o : Nat) (pre vs post : List Value) (ho : pre.length = o) {p : Nat} {T : TypeId} (hj : rs[j]? = some (pt p T (pre ++ (vs ++ post)))) : ∀ i u, vs[i]? = some u → cellH hp ⟨p, o + i, none⟩ = some u := by
 intro i u hu
 refine s.cell j hj ?_
 rw [List.getElem?_append_right (by omega), ho, Nat.add_sub_cancel_left, List.getElem?_append_left (List.getElem?_eq_some_iff.1 hu).1]
 exact hu
theorem run_neq_of_eql {P : Program} {t : TypeId} {xs ys : Array Value} {w : World} {r : Bool} (h : (binOp .eql t (.agg xs) (.agg ys)).run P w = .ok (.bool r) w) : (binOp .neq t (.agg xs) (.agg ys)).run P w = .ok (.bool (!r)) w := by
 rw [run_eql_struct] at h
 rw [run_neq_struct]
 cases hq : (Op.equalIn 10000 t (.agg xs) (.agg ys)).run P w with
 | ok b w' => rw [hq] at h; simp [Result.andThen] at h; obtain ⟨rfl, rfl⟩ := h; rfl
 | halt h1 w' => rw [hq] at h; simp [Result.andThen] at h
section
variable {P : Program} {E : Env} {hp : Heap} {cl : Cls} {d : Option Tmp} {ty : TypeId} {pos : String} {af : Array Edge} {g : Option (Nat × Bool)}
variable {x y : Operand} {t t' : TypeId}
theorem op_indexS {i : Nat} {k : IntKind} {s : ByteArray} {b : UInt8} (hx : ev E x = some (.string s)) (hy : ev E y = some (.int k (i : Int))) (ht : isStrT P t = true) (hb : s[i]? = some b) : Op1 cl P ⟨d, .index t x y, ty, pos, af, g⟩ E hp (.int .u8 (b.toNat : Int)) :=
 .of_pure fun _ a ho w' => by
  unfold isStrT at ht
  split at ht
  ·rename_i hu
   simp [execOp, ho.eval hx, ho.eval hy, Instr.index, asIntOf, run_underlying hu, hb]
  ·cases ht
theorem cutA_some {gb o sz m : Nat} (h : m ≠ o) : cutA (some ⟨gb, 0, none⟩) o sz m = some ⟨gb, o * sz, none⟩ := by
 unfold cutA
 rw [if_neg h]
 simp [addr_add]
end
end Go.Bn
end

section
set_option linter.unusedVariables false
set_option linter.unusedSimpArgs false
namespace Go.Bn
open Go
def putH (hp : Heap) (p : Nat) (o : Obj) : Heap := hp.setIfInBounds p o
theorem putH_size (hp : Heap) (p : Nat) (o : Obj) : (putH hp p o).size = hp.size := by simp [putH]
theorem putH_same {hp : Heap} {p : Nat} (o : Obj) (h : p < hp.size) : (putH hp p o)[p]? = some o := by simp [putH, h]
theorem putH_other {hp : Heap} {p k : Nat} (o : Obj) (h : k ≠ p) : (putH hp p o)[k]? = hp[k]? := by
 simp only [putH]; rw [Array.getElem?_setIfInBounds_ne (Ne.symm h)]
def obj (p : Nat) (o : Obj) : Res where
  P h S := (∀ k, S k ↔ k = p) ∧ h[p]? = some o
  loc := by rintro h h' S ⟨hS, hx⟩ he; exact ⟨hS, by rw [he p ((hS p).2 rfl)]; exact hx⟩
  lt := by rintro h S ⟨hS, hx⟩ k hk; rw [(hS k).1 hk]; exact (Array.getElem?_eq_some_iff.1 hx).1
theorem upd_obj {p : Nat} {o : Obj} (o' : Obj) {hp : Heap} : Upd (obj p o) hp (obj p o') (putH hp p o') := by
 refine ⟨by rw [putH_size]; exact Nat.le_refl _, fun S ⟨hS, h⟩ => ⟨S, ⟨hS, putH_same _ (Array.getElem?_eq_some_iff.1 h).1⟩, fun k hk => .inl hk, fun k _ hk => putH_other _ (fun e => hk ((hS k).2 e))⟩⟩
theorem new_obj (o : Obj) (hp : Heap) : New (obj hp.size o) hp (hp.push o) := by
 refine ⟨⟨by simp, fun k hk => by rw [Array.getElem?_push]; rw [if_neg (by omega)]⟩, fun k => k = hp.size, ⟨fun _ => Iff.rfl, by simp⟩, fun k hk => by omega⟩
theorem St.obj_at {B : Nat} {h0 hp : Heap} {rs : List Res} (s : St B h0 hp rs) (j : Nat) {p : Nat} {o : Obj} (hj : rs[j]? = some (obj p o)) : hp[p]? = some o := by
 obtain ⟨S, h, _⟩ := s.at_ hj; exact h.2
theorem St.put {B : Nat} {h0 hp : Heap} {rs : List Res} (s : St B h0 hp rs) (j : Nat) {p : Nat} {o : Obj} (o' : Obj) (hj : rs[j]? = some (obj p o)) : St B h0 (putH hp p o') (rs.set j (obj p o')) := s.upd hj (upd_obj o')
def getR : List Res → Nat → Res
  | [], _ => obj 0 (.deferred none)
  | r :: _, 0 => r
  | _ :: rs, n + 1 => getR rs n
theorem getR_range : ∀ (rs : List Res), (List.range rs.length).map (getR rs) = rs := by
 intro rs
 apply List.ext_getElem
 ·simp
 ·intro i h1 h2
  simp only [List.getElem_map, List.getElem_range]
  clear h1
  induction rs generalizing i with
  | nil => simp at h2
  | cons r rs ih =>
   cases i with
   | zero => rfl
   | succ i => exact ih i (by simpa using h2)
theorem St.re {B : Nat} {h0 hp : Heap} {rs : List Res} (s : St B h0 hp rs) (n : Nat) (idx : List Nat) (h : idx.Perm (List.range n)) (hn : rs.length = n := by rfl) : St B h0 hp (idx.map (getR rs)) := by
 subst hn
 have e := getR_range rs
 have hp := h.map (getR rs)
 rw [e] at hp
 exact s.perm hp.symm
theorem St.keep {B : Nat} {h0 hp : Heap} : ∀ {rs : List Res} (n : Nat), St B h0 hp rs → St B h0 hp (rs.take n)
 | [], _, s => by simpa using s
 | _ :: _, 0, s => by simpa using s.drop
 | r :: rs, n + 1, s => by
  have h : (r :: rs).Perm ((r :: rs).take (n + 1) ++ (r :: rs).drop (n + 1)) := by rw [List.take_append_drop]
  have s2 := s.perm (h.trans List.perm_append_comm)
  clear s h
  generalize (r :: rs).take (n + 1) = x at *
  generalize (r :: rs).drop (n + 1) = y at *
  induction y with
  | nil => simpa using s2
  | cons a y ih => exact ih s2.tail
section
variable {P : Program} {E : Env} {hp : Heap} {cl : Cls} {d : Option Tmp} {ty : TypeId} {pos : String} {af : Array Edge} {g : Option (Nat × Bool)}
variable {x y : Operand} {t t' : TypeId}
theorem op_mkFunc {k : Nat} {caps : Array Operand} {vs : List Value} (h : evs E caps.toList = some vs) : Op1 cl P ⟨d, .makeFunc (.func k) #[] caps, ty, pos, af, g⟩ E hp (.func (.func k) #[] vs.toArray) :=
 .of_pure fun _ a ho w' => by
  have ha : caps.map a.eval = vs.toArray := by
   apply Array.toList_inj.1
   rw [Array.toList_map, ho.evals h]
  simp [execOp, Instr.makeFunc, ha]
theorem opl_callV {f : FuncId} {args : Array Operand} {ts : Array TypeId} {vs : List Value} {caps : Array Value} {Φ : Value → Heap → Prop} (hx : ev E x = some (.func (.func f) #[] caps)) (h : Ret P f (vs ++ caps.toList) hp Φ) (hargs : evs E args.toList = some vs) (hc : callOk P f = true) :
  OpL P ⟨d, .call ⟨.value x, args, ts⟩, ty, pos, af, g⟩ E hp Φ := by
 intro n a w ho hw K hK
 unfold callOk at hc
 split at hc
 ·rename_i fn hfn
  simp only [Bool.and_eq_true, Bool.not_eq_true'] at hc
  obtain ⟨hn, hb⟩ := hc
  have hn' : ¬ (fn.name = "runtime.NumGoroutine") := by simpa using hn
  have hb' : ¬ (fn.body = none) := by intro h; rw [h] at hb; cases hb
  have ha : args.map a.eval = vs.toArray := by
   apply Array.toList_inj.1
   rw [Array.toList_map, ho.evals hargs]
  have hrun : (execOp a.eval ⟨d, .call ⟨.value x, args, ts⟩, ty, pos, af, g⟩).run P w = .ok (.enter f (vs ++ caps.toList).toArray) w := by
   have e : vs.toArray ++ caps = (vs ++ caps.toList).toArray := by apply Array.toList_inj.1; simp
   simp [execOp, resolve, ho.eval hx, Deferred.ofValue, invoke, callFunc, hfn, hn', hb', ha, e]
  simp only [Oper.wp, hrun, Oper.upon]
  refine (h w hw).mono ?_
  rintro e w' ⟨v, rfl, hi, hΦ⟩
  exact hK v w' hi hΦ
 ·cases hc
theorem op_indexO {b o len : Nat} {k : IntKind} {i : Nat} (hx : ev E x = some (.pointer (some ⟨b, o, none⟩))) (hy : ev E y = some (.int k (i : Int))) (ht : arrayEl P t = some (len, 1)) (hi : i < len) :
  Op1 cl P ⟨d, .indexAddr t x y, ty, pos, af, g⟩ E hp (.pointer (some ⟨b, o + i, none⟩)) := by
 have := op_indexA (cl := cl) (hp := hp) (d := d) (ty := ty) (pos := pos) (af := af) (g := g) hx hy ht hi
 rwa [Nat.mul_one] at this
def isNone? {α : Type} : Option α → Bool
  | none => true
  | some _ => false
theorem op_slc_eql {A : Option Addr} {m c : Nat} (hx : ev E x = some (.slice A m c)) (hy : ev E y = some (.slice none 0 0)) (ht : isSliceT P t = true) : Op1 cl P ⟨d, .binOp .eql t x y t', ty, pos, af, g⟩ E hp (.bool (isNone? A)) :=
 .of_pure fun n a ho w' => by
  unfold isSliceT at ht
  split at ht
  ·rename_i e hu
   have he0 : ∀ dd, (Op.equalIn (dd + 1) t (.slice A m c) (.slice none 0 0)).run P w' = .ok (isNone? A) w' := by
    intro dd
    cases A <;> simp [Op.equalIn, run_underlying hu, isNone?]
   have hm : Op.maxDepth = 9999 + 1 := rfl
   have he := he0 9999
   rw [← hm] at he
   simp [execOp, ho.eval hx, ho.eval hy, eqGuard, binOp, Op.equal, he]
  ·cases ht
def RRet (P : Program) (l : Nat) (args : List Value) (hp : Heap) (Φ : Value → Heap → Prop) : Prop :=
  ∀ w : World, w.heap = hp → ∃ f tmps assign body, (Instr.yield l args.toArray).run P w = .ok (.round l f tmps assign body) w ∧
    RoundIn Fence.wide 0 P l f tmps assign body w (fun e w' => ∃ v, e = .returned v ∧ Inv w w' ∧ Φ v w'.heap)
def OpY (P : Program) (o : Oper) (E : Env) (hp : Heap) (Φ : Value → Heap → Prop) : Prop :=
  ∀ n a w, OK n E a → w.heap = hp → ∀ K : Act → World → Prop, (∀ v w', Inv w w' → Φ v w'.heap → K (a.put o.dst v) w') → ∀ S, wq P S o a w K
theorem opy_yield {l : Nat} {args : Array Operand} {ts : Array TypeId} {vs : List Value} {Φ : Value → Heap → Prop} (hx : ev E x = some (.func (.yield l) #[] #[])) (h : RRet P l vs hp Φ) (hargs : evs E args.toList = some vs) :
  OpY P ⟨d, .call ⟨.value x, args, ts⟩, ty, pos, af, g⟩ E hp Φ := by
 intro n a w ho hw K hK S
 have ha : args.map a.eval = vs.toArray := by
  apply Array.toList_inj.1
  rw [Array.toList_map, ho.evals hargs]
 obtain ⟨f, tmps, assign, body, hy, hR⟩ := h w hw
 have hrun : (execOp a.eval ⟨d, .call ⟨.value x, args, ts⟩, ty, pos, af, g⟩).run P w = .ok (.round l f tmps assign body) w := by
  simp [execOp, resolve, ho.eval hx, Deferred.ofValue, invoke, ha, hy]
 simp only [wq, hrun, upW]
 refine hR.mono ?_
 rintro e w' ⟨v, rfl, hi, hΦ⟩
 exact ⟨v, rfl, hK v w' hi hΦ⟩
end
section
variable {c : Cx} {k : List SItem} {E : Env} {hp : Heap} {ops : Array Oper} {cs : CF}
theorem XR_ya {i : Nat} {d : Tmp} {op : Op} {ty : TypeId} {pos : String} {af : Array Edge} {g : Option (Nat × Bool)} {rest : List (Nat × Oper)} {Φ : Value → Heap → Prop}
  (h1 : OpY c.P ⟨some d, op, ty, pos, af, g⟩ E hp Φ) (hc : cs i ⟨some d, op, ty, pos, af, g⟩ = .wild) (hf : Nat.blt d c.fn.ntmps = true) (hw : wantedE ops E ⟨some d, op, ty, pos, af, g⟩ = some true)
  (h : ∀ v hp', Φ v hp' → XR c cs ops rest k ((d, v) :: E) hp') : XR c cs ops ((i, ⟨some d, op, ty, pos, af, g⟩) :: rest) k E hp := by
 unfold XR at *
 intro a w ho hi hh
 simp only [rgp, wantedE_spec hw ho.1, if_true, hc, stepC]
 exact h1 _ a w ho.1 hh _ (fun v w' hi' hΦ => h v w'.heap hΦ (a.put (some d) v) w' ⟨ho.1.put (d := some d) v hf, (put_defers _ _ _).trans ho.2⟩ (hi.trans hi') rfl) _
theorem SQ_D (D : List Deferred) : ∀ (k : List SItem), SQ { c with D := D } k = SQ c k
 | [] => rfl
 | .code x :: k => by
  funext e a w
  have ih := SQ_D D k
  cases e <;> simp only [SQ, ih]
 | .blk id :: k => by
  funext e a w
  have ih := SQ_D D k
  cases e <;> simp only [SQ, ih]
 | .inv J :: k => by
  funext e a w
  have ih := SQ_D D k
  cases e <;> simp only [SQ, ih]
def loopR (fn : FuncId) (tmps : Array Value) (ps : Array Tmp) (assign body : Code) (dd : Nat) (s : LoopState) (j : Option Code) : Obj :=
  .loop { state := s, pending := j, fn, tmps, params := ps, assign, body, defers := dd }
theorem St.loop {B : Nat} {h0 hp : Heap} {rs : List Res} (s : St B h0 hp rs) (j : Nat) {p : Nat} {fn : FuncId} {tmps : Array Value} {ps : Array Tmp} {assign body : Code} {dd : Nat} {s0 : LoopState} {j0 : Option Code} (s' : LoopState) (j' : Option Code) (hj : rs[j]? = some (obj p (loopR fn tmps ps assign body dd s0 j0))) :
  St B h0 (putH hp p (loopR fn tmps ps assign body dd s' j')) (rs.set j (obj p (loopR fn tmps ps assign body dd s' j'))) := s.put j _ hj
@[reducible] def mark (d : Nat) : Deferred := { target := .collected d, args := #[] }
theorem X_range {g : Operand} {ps : Array Tmp} {assign body : Code} {gf : Nat} {lb : List Value} (hr : c.r = none) (hg : ev E g = some (.func (.func gf) #[] lb.toArray)) (hc : callOk c.P gf = true)
  (h : ∀ fn tmps, OK c.fn.ntmps E ⟨tmps, []⟩ → Ret c.P gf (.func (.yield (hp.size + 1)) #[] #[] :: lb) ((hp.push (.deferred (some []))).push (loopR fn tmps ps assign body hp.size .ready none))
   (fun _ hp2 => (hp2[hp.size + 1]? = some (loopR fn tmps ps assign body hp.size .ready none) ∧ X { c with D := mark hp.size :: c.D } k E (putH hp2 (hp.size + 1) (loopR fn tmps ps assign body hp.size .exhausted none))) ∨
    ∃ j, hp2[hp.size + 1]? = some (loopR fn tmps ps assign body hp.size .done (some j)) ∧ X { c with D := mark hp.size :: c.D } (.code j :: k) E (putH hp2 (hp.size + 1) (loopR fn tmps ps assign body hp.size .exhausted (some j))))) :
  X c (.code (.rangeFunc g ps assign body) :: k) E hp := by
 unfold X at *
 intro a w ho hi hw
 show (Code.rangeFunc g ps assign body).wpIn (wdF c.r) 0 c.P (SQ c k) a w
 rw [hr]
 refine wpIn_rangeFunc ?_
 intro fn hfn
 unfold callOk at hc
 split at hc
 ·rename_i f0 hf0
  simp only [Bool.and_eq_true, Bool.not_eq_true'] at hc
  obtain ⟨hn, hb⟩ := hc
  have hn' : ¬ (f0.name = "runtime.NumGoroutine") := by simpa using hn
  have hb' : ¬ (f0.body = none) := by intro h; rw [h] at hb; cases hb
  subst hw
  obtain ⟨W1, hW1⟩ : ∃ W1, (w.alloc (.deferred (some []))).alloc (loopR fn a.tmps ps assign body w.heap.size .ready none) = W1 := ⟨_, rfl⟩
  have hH1 : W1.heap = (w.heap.push (.deferred (some []))).push (loopR fn a.tmps ps assign body w.heap.size .ready none) := by rw [← hW1]; rfl
  have hI1 : Inv c.w0 W1 := by rw [← hW1]; exact ⟨hi.os, hi.tape, hi.output⟩
  refine ⟨w.heap.size + 1, [mark w.heap.size], W1, { target := .fn (.func gf) lb.toArray, args := #[.func (.yield (w.heap.size + 1)) #[] #[]] }, W1, gf, (.func (.yield (w.heap.size + 1)) #[] #[] :: lb).toArray, W1, ?_, ?_, fun _ _ => trivial, ?_, ?_, ?_⟩
  ·rw [← hW1]; exact run_enterLoop_outer _ _ _ _ _
  ·have hge := ho.1.eval hg
   have hc0 : ∀ v, a.eval (.const v) = v := fun _ => rfl
   simp [resolve, hge, hc0, Deferred.ofValue]
  ·have e : #[Value.func (.yield (w.heap.size + 1)) #[] #[]] ++ lb.toArray = (Value.func (.yield (w.heap.size + 1)) #[] #[] :: lb).toArray := by apply Array.toList_inj.1; simp
   simp [invoke, callFunc, hf0, hn', hb', e]
  ·intro hh; simp [wdF, Fence.wide] at hh
  ·refine (callsIn_wide (n := 0 - 1)).2 ((h fn a.tmps ⟨ho.1.size, ho.1.get⟩ W1 hH1).mono ?_)
   rintro e W2 ⟨v, rfl, hI2, hΦ⟩
   have hI := hI1.trans hI2
   rcases hΦ with ⟨hl, hX⟩ | ⟨j, hl, hX⟩
   ·refine ⟨none, W2.putObj (w.heap.size + 1) (loopR fn a.tmps ps assign body w.heap.size .exhausted none), run_endLoop hl (by simp), ?_⟩
    have := hX { a with defers := [mark w.heap.size] ++ a.defers } (W2.putObj (w.heap.size + 1) (loopR fn a.tmps ps assign body w.heap.size .exhausted none)) ⟨⟨ho.1.size, ho.1.get⟩, by simp [ho.2]⟩ ⟨hI.os, hI.tape, hI.output⟩ rfl
    rw [SQ_D] at this
    exact this
   ·refine ⟨some j, W2.putObj (w.heap.size + 1) (loopR fn a.tmps ps assign body w.heap.size .exhausted (some j)), run_endLoop hl (by simp), ?_⟩
    have := hX { a with defers := [mark w.heap.size] ++ a.defers } (W2.putObj (w.heap.size + 1) (loopR fn a.tmps ps assign body w.heap.size .exhausted (some j))) ⟨⟨ho.1.size, ho.1.get⟩, by simp [ho.2]⟩ ⟨hI.os, hI.tape, hI.output⟩ rfl
    rw [SQ_D] at this
    have e : (SQ c (.code j :: k) .normal) = j.wpIn (wdF c.r) 0 c.P (SQ c k) := rfl
    rw [e, hr] at this
    exact this
 ·cases hc
theorem X_rangeS {B : Nat} {h0 : Heap} {rs : List Res} {g : Operand} {ps : Array Tmp} {assign body : Code} {gf : Nat} {lb : List Value} (st : St B h0 hp rs) (hr : c.r = none) (hg : ev E g = some (.func (.func gf) #[] lb.toArray)) (hc : callOk c.P gf = true)
  (h : ∀ fn tmps (L : LoopState → Option Code → Obj) y d hp1, L = loopR fn tmps ps assign body d → OK c.fn.ntmps E ⟨tmps, []⟩ → Ext hp hp1 → St B h0 hp1 (obj y (L .ready none) :: obj d (.deferred (some [])) :: rs) →
   Ret c.P gf (.func (.yield y) #[] #[] :: lb) hp1 (fun _ hp2 =>
    (∃ rs', St B h0 hp2 (obj y (L .ready none) :: rs') ∧ ∀ hp3, St B h0 hp3 (obj y (L .exhausted none) :: rs') → X { c with D := mark d :: c.D } k E hp3) ∨
    ∃ j rs', St B h0 hp2 (obj y (L .done (some j)) :: rs') ∧ ∀ hp3, St B h0 hp3 (obj y (L .exhausted (some j)) :: rs') → X { c with D := mark d :: c.D } (.code j :: k) E hp3)) :
  X c (.code (.rangeFunc g ps assign body) :: k) E hp := by
 refine X_range hr hg hc fun fn tmps hok => ?_
 have n1 := new_obj (.deferred (some [])) hp
 have n2 := new_obj (loopR fn tmps ps assign body hp.size .ready none) (hp.push (.deferred (some [])))
 rw [Array.size_push] at n2
 refine Ret.mono (h fn tmps _ (hp.size + 1) hp.size _ rfl hok (n1.1.trans n2.1) ((st.new n1).new n2)) ?_
 rintro v hp2 (⟨rs', st2, hX⟩ | ⟨j, rs', st2, hX⟩)
 ·exact .inl ⟨st2.obj_at 0 rfl, hX _ (st2.put 0 _ rfl)⟩
 ·exact .inr ⟨j, st2.obj_at 0 rfl, hX _ (st2.put 0 _ rfl)⟩
@[reducible] def Cx.rnd (P : Program) (fn : Func) (l : Nat) (Φ : Value → Heap → Prop) (w0 : World) : Cx :=
  ⟨P, fn, Φ, w0, some l, [], roundPost P l fun e w' => ∃ v, e = .returned v ∧ Inv w0 w' ∧ Φ v w'.heap, true⟩
def BegJ (c : Cx) (l : Nat) (body : Code) (a : Act) (w : World) : Prop := ∃ w₂, (Instr.beginRound l).run c.P w = .ok () w₂ ∧ body.wpIn (wdF (some l)) 0 c.P c.B a w₂
theorem X_begin {P : Program} {fn : Func} {l : Nat} {f : FuncId} {tmps : Array Value} {ps : Array Tmp} {assign body : Code} {dd : Nat} {Φ : Value → Heap → Prop} {w0 : World} (hl : hp[l]? = some (loopR f tmps ps assign body dd .ready none))
  (h : X (Cx.rnd P fn l Φ w0) [.code body] E (putH hp l (loopR f tmps ps assign body dd .busy none))) : X { Cx.rnd P fn l Φ w0 with B := NoQ } [.inv (BegJ (Cx.rnd P fn l Φ w0) l body)] E hp := by
 unfold X at *
 intro a w ho hi hw
 subst hw
 refine ⟨w.putObj l (loopR f tmps ps assign body dd .busy none), run_beginRound hl rfl, ?_⟩
 have := h a (w.putObj l (loopR f tmps ps assign body dd .busy none)) ho ⟨hi.os, hi.tape, hi.output⟩ rfl
 have e : SQ (Cx.rnd P fn l Φ w0) [.code body] .normal = body.wpIn (wdF (some l)) 0 P (SQ (Cx.rnd P fn l Φ w0) []) := rfl
 rw [e] at this
 exact wpIn_mono this (fun e a w he => he)
def penv : List Tmp → List Value → Env → Env
  | p :: ps, v :: vs, E => penv ps vs ((p, v) :: E)
  | _, _, E => E
theorem OK.params {n : Nat} : ∀ {ps : List Tmp} {vs : List Value} {E : Env} {tmps : Array Value}, ps.all (Nat.blt · n) = true → OK n E ⟨tmps, []⟩ → OK n (penv ps vs E) ⟨(ps.zip vs).foldl (fun t (p, v) => t.setIfInBounds p v) tmps, []⟩
 | [], _, _, _, _, h => by simpa [penv] using h
 | _ :: _, [], _, _, _, h => by simpa [penv] using h
 | p :: ps, v :: vs, E, tmps, hn, h => by
  simp only [List.all_cons, Bool.and_eq_true] at hn
  have := h.put (d := some p) v hn.1
  exact OK.params (ps := ps) (vs := vs) hn.2 (this : OK n ((p, v) :: E) ⟨tmps.setIfInBounds p v, []⟩)
theorem rret_of_X {P : Program} {fn : Func} {l : Nat} {f : FuncId} {tmps : Array Value} {ps : List Tmp} {assign body : Code} {dd : Nat} {args : List Value} {E : Env} {hp : Heap} {Φ : Value → Heap → Prop}
  (hl : hp[l]? = some (loopR f tmps ps.toArray assign body dd .ready none)) (hE : OK fn.ntmps E ⟨tmps, []⟩) (hn : ps.length = args.length) (hps : ps.all (Nat.blt · fn.ntmps) = true)
  (h : ∀ w0 : World, w0.heap = hp → X { Cx.rnd P fn l Φ w0 with B := NoQ } [.code assign, .inv (BegJ (Cx.rnd P fn l Φ w0) l body)] (penv ps args E) hp) : RRet P l args hp Φ := by
 intro w hw
 refine ⟨f, (ps.toArray.zip args.toArray).foldl (fun t (p, v) => t.setIfInBounds p v) tmps, assign, body, ?_, ?_⟩
 ·have := run_yield (P := P) (w := w) (args := args.toArray) (r := { state := .ready, pending := none, fn := f, tmps, params := ps.toArray, assign, body, defers := dd }) (by rw [hw]; exact hl) (by simp [hn])
  exact this
 ·have e : (ps.toArray.zip args.toArray).foldl (fun t (p, v) => t.setIfInBounds p v) tmps = (ps.zip args).foldl (fun t (p, v) => t.setIfInBounds p v) tmps := by
   rw [← Array.foldl_toList]; simp
  rw [e]
  have hx := h w hw
  unfold X at hx
  have h1 := hx ⟨(ps.zip args).foldl (fun t (p, v) => t.setIfInBounds p v) tmps, []⟩ w ⟨OK.params hps hE, rfl⟩ (Inv.refl w) hw
  refine roundIn_of_wpIn (F := Fence.wide) (n := 0) trivial ?_
  refine wpIn_mono (Q := SQ { Cx.rnd P fn l Φ w with B := NoQ } [.inv (BegJ (Cx.rnd P fn l Φ w) l body)]) h1 ?_
  intro e a w1 he
  cases e with
  | normal => exact he
  | exit _ => exact he.elim
  | goto _ => exact he.elim
  | ret => exact he.elim
  | panic _ => exact he.elim
  | outgrown => exact he.elim
theorem X_rnd {P : Program} {fn : Func} {l : Nat} {f : FuncId} {tmps : Array Value} {ps : Array Tmp} {assign body : Code} {dd : Nat} {E : Env} {hp : Heap} {Φ : Value → Heap → Prop} {w0 : World}
  (hl : hp[l]? = some (loopR f tmps ps assign body dd .busy none)) (hΦ : Φ (.bool true) (putH hp l (loopR f tmps ps assign body dd .ready none))) : X (Cx.rnd P fn l Φ w0) [] E hp := by
 unfold X
 intro a w ho hi hw
 subst hw
 exact ⟨.bool true, w.putObj l (loopR f tmps ps assign body dd .ready none), run_endRound none hl, .bool true, rfl, ⟨hi.os, hi.tape, hi.output⟩, hΦ⟩
theorem SQ_out {id : Nat} : ∀ {k : List SItem}, exitK id k = none → ∀ a w, c.B (.exit id) a w → SQ c k (.exit id) a w
 | [], _, a, w, h => h
 | .code _ :: k, he, a, w, h => SQ_out (k := k) he a w h
 | .inv _ :: k, he, a, w, h => SQ_out (k := k) he a w h
 | .blk j :: k, he, a, w, h => by
  simp only [exitK] at he
  show (if id = j then SQ c k .normal a w else SQ c k (.exit id) a w)
  cases hb : Nat.beq id j with
  | true => rw [hb] at he; cases he
  | false => rw [hb] at he; rw [if_neg (Nat.ne_of_beq_eq_false hb)]; exact SQ_out he a w h
theorem X_rnd_exit {P : Program} {fn : Func} {l : Nat} {f : FuncId} {tmps : Array Value} {ps : Array Tmp} {assign body : Code} {dd id : Nat} {E : Env} {hp : Heap} {Φ : Value → Heap → Prop} {w0 : World} {k : List SItem} (hk : exitK id k = none)
  (hl : hp[l]? = some (loopR f tmps ps assign body dd .busy none)) (hΦ : Φ (.bool false) (putH hp l (loopR f tmps ps assign body dd .done (some (.exit id))))) : X (Cx.rnd P fn l Φ w0) (.code (.exit id) :: k) E hp := by
 unfold X
 intro a w ho hi hw
 subst hw
 refine wpIn_exit (SQ_out hk _ _ ?_)
 exact ⟨.bool false, w.putObj l (loopR f tmps ps assign body dd .done (some (.exit id))), run_endRound (some (.exit id)) hl, .bool false, rfl, ⟨hi.os, hi.tape, hi.output⟩, hΦ⟩
end
theorem St.reF {B : Nat} {h0 hp : Heap} (rs : List Res) (n : Nat) {F : List Res} (s : St B h0 hp (rs ++ F)) (idx : List Nat) (h : idx.Perm (List.range n)) (hn : rs.length = n := by rfl) : St B h0 hp (idx.map (getR rs) ++ F) := by
 subst hn
 have e := getR_range rs
 have hp := h.map (getR rs)
 rw [e] at hp
 exact s.perm (hp.symm.append_right F)
end Go.Bn
end

section
set_option linter.unusedVariables false
set_option linter.unusedSimpArgs false
namespace Go.Bn
def cn (ls : List Nat) (n : Nat) : Nat := if n = 0 then 0 else ls.count n
def fst (ls : List Nat) : Nat → Nat
  | 0 => 0
  | n + 1 => (fst ls n + cn ls n) * 2
def val (ls : List Nat) (s : Nat) : Nat := if ls.getD s 0 = 0 then 0 else fst ls (ls.getD s 0) + (ls.take s).count (ls.getD s 0)
def vals (ls : List Nat) : List Nat := (List.range ls.length).map (val ls)
theorem vals_length (ls : List Nat) : (vals ls).length = ls.length := by simp [vals]
def unitK (k : Nat) : Nat := if k = 0 then 0 else 2 ^ (15 - k)
def kraft (ls : List Nat) : Nat := (ls.map unitK).sum
def lensOK (ls : List Nat) : Prop := 1 ≤ ls.length ∧ ls.length ≤ 320 ∧ (∀ x ∈ ls, x ≤ 15) ∧ (kraft ls = 32768 ∨ ls.sum = 1)
def partC (ls : List Nat) : Nat → Nat
  | 0 => 0
  | n + 1 => partC ls n + cn ls (n + 1) * 2 ^ (15 - (n + 1))
theorem part_fst (ls : List Nat) : ∀ n, n ≤ 15 → (fst ls n + cn ls n) * 2 ^ (15 - n) = partC ls n
 | 0, _ => by simp [fst, cn, partC]
 | n + 1, h => by
  have ih := part_fst ls n (by omega)
  have e : 15 - n = (15 - (n + 1)) + 1 := by omega
  rw [e, Nat.pow_succ] at ih
  rw [partC, ← ih, fst, Nat.add_mul, Nat.mul_assoc, Nat.mul_comm 2]
theorem part_nil : ∀ n, partC [] n = 0
 | 0 => rfl
 | n + 1 => by simp [partC, part_nil n, cn]
theorem part_cons (x : Nat) (ls : List Nat) : ∀ n, partC (x :: ls) n = partC ls n + if 1 ≤ x ∧ x ≤ n then 2 ^ (15 - x) else 0
 | 0 => by rw [if_neg (by omega)]; rfl
 | n + 1 => by
  have ih := part_cons x ls n
  rw [partC, partC, ih]
  have hc : cn (x :: ls) (n + 1) = cn ls (n + 1) + if x = n + 1 then 1 else 0 := by
   unfold cn
   rw [if_neg (by omega), if_neg (by omega), List.count_cons]
   congr 1
   simp
  rw [hc]
  by_cases h1 : x = n + 1
  ·subst h1
   rw [if_pos rfl, if_neg (by omega), if_pos ⟨by omega, by omega⟩, Nat.add_mul]; omega
  ·rw [if_neg h1, Nat.add_zero]
   by_cases h2 : 1 ≤ x ∧ x ≤ n
   ·rw [if_pos h2, if_pos ⟨h2.1, by omega⟩]; omega
   ·rw [if_neg h2, if_neg (by omega)]; omega
theorem part_kraft : ∀ (ls : List Nat), (∀ x ∈ ls, x ≤ 15) → partC ls 15 = kraft ls
 | [], _ => by simp [part_nil, kraft]
 | x :: ls, h => by
  have ih := part_kraft ls fun y hy => h y (List.mem_cons_of_mem _ hy)
  have hx := h x List.mem_cons_self
  rw [part_cons, ih]
  simp only [kraft, List.map_cons, List.sum_cons, unitK]
  by_cases h0 : x = 0
  ·rw [if_neg (by omega), if_pos h0]; omega
  ·rw [if_pos (by omega), if_neg h0]; omega
theorem part_mono (ls : List Nat) {a b : Nat} (h : a ≤ b) : partC ls a ≤ partC ls b := by
  induction b with
  | zero => obtain rfl : a = 0 := by omega
            exact Nat.le_refl _
  | succ b ih =>
    rcases Nat.lt_or_ge b a with h1 | h1
    · obtain rfl : a = b + 1 := by omega
      exact Nat.le_refl _
    · have := ih h1; rw [partC]; omega
theorem kraft_zero : ∀ (ls : List Nat), ls.sum = 0 → kraft ls = 0
 | [], _ => rfl
 | x :: ls, h => by
  simp only [List.sum_cons] at h
  have ih := kraft_zero ls (by omega)
  obtain rfl : x = 0 := by omega
  simp only [kraft, List.map_cons, List.sum_cons, unitK] at ih ⊢
  rw [ih]; rfl
theorem kraft_one : ∀ (ls : List Nat), ls.sum = 1 → kraft ls = 16384
 | [], h => by simp at h
 | x :: ls, h => by
  simp only [List.sum_cons] at h
  have e : kraft (x :: ls) = unitK x + kraft ls := rfl
  rcases (by omega : x = 0 ∧ ls.sum = 1 ∨ x = 1 ∧ ls.sum = 0) with ⟨rfl, h1⟩ | ⟨rfl, h1⟩
  ·rw [e, kraft_one ls h1]; rfl
  ·rw [e, kraft_zero ls h1]; rfl
theorem lensOK.kraft_le {ls : List Nat} (h : lensOK ls) : kraft ls ≤ 32768 := by
 rcases h.2.2.2 with h | h
 ·omega
 ·rw [kraft_one ls h]; omega
theorem fst_le {ls : List Nat} (h : lensOK ls) {n : Nat} (hn : n ≤ 15) : fst ls n + cn ls n ≤ 2 ^ n := by
 have h1 := part_fst ls n hn
 have h2 := part_mono ls hn
 rw [part_kraft ls h.2.2.1] at h2
 have h3 := h.kraft_le
 have e : 2 ^ n * 2 ^ (15 - n) = 32768 := by rw [← Nat.pow_add, show n + (15 - n) = 15 by omega]
 exact Nat.le_of_mul_le_mul_right (by omega : (fst ls n + cn ls n) * 2 ^ (15 - n) ≤ 2 ^ n * 2 ^ (15 - n)) (Nat.pow_pos (by omega))
theorem fst_bd {ls : List Nat} (h : lensOK ls) {n : Nat} (hn : n ≤ 15) : fst ls n + cn ls n ≤ 32768 :=
 Nat.le_trans (fst_le h hn) (Nat.pow_le_pow_right (by omega) hn)
theorem cn_pos {n : Nat} (ls : List Nat) (h : n ≠ 0) : cn ls n = ls.count n := by unfold cn; rw [if_neg h]
theorem fst_zero {ls : List Nat} : ∀ {n : Nat}, (∀ m, 0 < m → m < n → cn ls m = 0) → fst ls n = 0
 | 0, _ => rfl
 | n + 1, h => by
  rw [fst, fst_zero fun m h1 h2 => h m h1 (by omega)]
  rcases Nat.eq_zero_or_pos n with rfl | h0
  ·simp [cn]
  ·rw [h n h0 (by omega)]
theorem count_take_succ {ls : List Nat} {s : Nat} (h : s < ls.length) (n : Nat) : (ls.take (s + 1)).count n = (ls.take s).count n + if ls[s] = n then 1 else 0 := by
 rw [List.take_succ_eq_append_getElem h, List.count_append]
 congr 1
 rw [List.count_cons, List.count_nil]; simp
theorem count_take_lt {ls : List Nat} {s : Nat} (h : s < ls.length) : (ls.take s).count ls[s] < ls.count ls[s] := by
 have h1 := count_take_succ h ls[s]
 rw [if_pos rfl] at h1
 have h2 : (ls.take (s + 1)).count ls[s] ≤ ls.count ls[s] := (List.take_sublist _ _).count_le _
 omega
theorem val_lt {ls : List Nat} (h : lensOK ls) {s : Nat} (hs : s < ls.length) (h0 : ls[s] ≠ 0) : val ls s < fst ls ls[s] + cn ls ls[s] ∧ fst ls ls[s] ≤ val ls s := by
 have e : ls.getD s 0 = ls[s] := by simp [List.getD, hs]
 unfold val
 rw [e, if_neg h0, cn_pos ls h0]
 have := count_take_lt hs
 omega
def valAt (ls : List Nat) (n s : Nat) (j : Nat) : Nat := if (0 < ls.getD j 0 ∧ ls.getD j 0 < n) ∨ (ls.getD j 0 = n ∧ j < s) then val ls j else 0
theorem valAt_full (ls : List Nat) (h : ∀ x ∈ ls, x ≤ 15) : (List.range ls.length).map (valAt ls 16 0) = vals ls := by
 refine List.map_congr_left fun j hj => ?_
 have hj : j < ls.length := List.mem_range.1 hj
 have e : ls.getD j 0 = ls[j] := by simp [List.getD, hj]
 have := h ls[j] (List.getElem_mem hj)
 unfold valAt
 rw [e]
 by_cases h0 : ls[j] = 0
 ·rw [if_neg (by omega)]; unfold val; rw [e, if_pos h0]
 ·rw [if_pos (by omega)]
theorem valAt_next (ls : List Nat) (n : Nat) (hn : 0 < n) : (List.range ls.length).map (valAt ls n ls.length) = (List.range ls.length).map (valAt ls (n + 1) 0) := by
 refine List.map_congr_left fun j hj => ?_
 have hj : j < ls.length := List.mem_range.1 hj
 unfold valAt
 generalize ls.getD j 0 = x
 by_cases h : (0 < x ∧ x < n) ∨ (x = n ∧ j < ls.length)
 ·rw [if_pos h, if_pos (by omega)]
 ·rw [if_neg h, if_neg (by omega)]
theorem valAt_skip {ls : List Nat} {n s : Nat} (hs : s < ls.length) (h : ls[s] ≠ n) : (List.range ls.length).map (valAt ls n s) = (List.range ls.length).map (valAt ls n (s + 1)) := by
 refine List.map_congr_left fun j hj => ?_
 have hj : j < ls.length := List.mem_range.1 hj
 have e : ls.getD j 0 = ls[j] := by simp [List.getD, hj]
 unfold valAt
 rw [e]
 have hne : j = s → ls[j] ≠ n := by rintro rfl; exact h
 by_cases h1 : (0 < ls[j] ∧ ls[j] < n) ∨ (ls[j] = n ∧ j < s)
 ·rw [if_pos h1, if_pos (by omega)]
 ·rw [if_neg h1, if_neg (by
   rintro (h2 | ⟨h2, h3⟩)
   ·exact h1 (.inl h2)
   ·rcases Nat.lt_or_ge j s with h4 | h4
    ·exact h1 (.inr ⟨h2, h4⟩)
    ·exact hne (by omega) h2)]
theorem valAt_set {ls : List Nat} {n s : Nat} (hs : s < ls.length) (h : ls[s] = n) (h0 : n ≠ 0) : ((List.range ls.length).map (valAt ls n s)).set s (fst ls n + (ls.take s).count n) = (List.range ls.length).map (valAt ls n (s + 1)) := by
 apply List.ext_getElem
 ·simp
 ·intro j h1 h2
  have hj : j < ls.length := by simpa using h2
  have e : ls.getD j 0 = ls[j] := by simp [List.getD, hj]
  rw [List.getElem_set]
  by_cases hjs : s = j
  ·subst hjs
   rw [if_pos rfl]
   simp only [List.getElem_map, List.getElem_range, valAt, e]
   rw [if_pos (.inr ⟨h, by omega⟩)]
   unfold val
   rw [e, h, if_neg h0]
  ·rw [if_neg hjs]
   simp only [List.getElem_map, List.getElem_range, valAt, e]
   by_cases h1 : (0 < ls[j] ∧ ls[j] < n) ∨ (ls[j] = n ∧ j < s)
   ·rw [if_pos h1, if_pos (by omega)]
   ·rw [if_neg h1, if_neg (by omega)]
def refAt (ls : List Nat) (n s next last : Nat) : Prop :=
  (last = 0 ∧ next = 0 ∧ (∀ m, 0 < m → m < n → cn ls m = 0) ∧ (ls.take s).count n = 0) ∨
  (0 < last ∧ last < n ∧ next * 2 ^ (n - last) = fst ls n ∧ (ls.take s).count n = 0) ∨
  (0 < last ∧ last = n ∧ next = fst ls n + (ls.take s).count n)
theorem refAt_next {ls : List Nat} {n next last : Nat} (hn : 0 < n) (h : refAt ls n ls.length next last) : refAt ls (n + 1) 0 next last := by
 unfold refAt at *
 rw [List.take_length, ← cn_pos ls (by omega)] at h
 rcases h with ⟨h1, h2, h3, h4⟩ | ⟨h1, h2, h3, h4⟩ | ⟨h1, h2, h3⟩
 ·refine .inl ⟨h1, h2, fun m m1 m2 => ?_, by simp⟩
  rcases Nat.lt_or_ge m n with h | h
  ·exact h3 m m1 h
  ·obtain rfl : m = n := by omega
   exact h4
 ·refine .inr (.inl ⟨h1, by omega, ?_, by simp⟩)
  rw [fst, h4, ← h3, show n + 1 - last = (n - last) + 1 by omega, Nat.pow_succ, ← Nat.mul_assoc]; simp
 ·refine .inr (.inl ⟨h1, by omega, ?_, by simp⟩)
  rw [fst, h3, h2, show n + 1 - n = 1 by omega]
theorem refAt_skip {ls : List Nat} {n s next last : Nat} (hs : s < ls.length) (hx : ls[s] ≠ n) (h : refAt ls n s next last) : refAt ls n (s + 1) next last := by
 unfold refAt at *
 rw [count_take_succ hs, if_neg hx, Nat.add_zero]; exact h
theorem refAt_hit {ls : List Nat} {n s next last : Nat} (hn : 0 < n) (hs : s < ls.length) (hx : ls[s] = n) (hle : last = 0 ∨ n ≤ last) (h : refAt ls n s next last) : next = fst ls n + (ls.take s).count n ∧ refAt ls n (s + 1) (next + 1) n := by
 have e : next = fst ls n + (ls.take s).count n := by
  unfold refAt at h
  rcases h with ⟨h1, h2, h3, h4⟩ | ⟨h1, h2, h3, h4⟩ | ⟨h1, h2, h3⟩
  ·rw [fst_zero h3, h4, h2]
  ·omega
  ·exact h3
 refine ⟨e, .inr (.inr ⟨hn, rfl, ?_⟩)⟩
 rw [count_take_succ hs, if_pos hx, e]; omega
theorem refAt_double {ls : List Nat} {n s next last : Nat} (h0 : 0 < last) (hlt : last < n) (h : refAt ls n s next last) : refAt ls n s (next * 2) (last + 1) ∧ next * 2 ≤ fst ls n := by
 unfold refAt at *
 rcases h with ⟨h1, h2, h3, h4⟩ | ⟨h1, h2, h3, h4⟩ | ⟨h1, h2, h3⟩
 ·omega
 ·have e : next * 2 * 2 ^ (n - (last + 1)) = fst ls n := by
   rw [← h3, show n - last = (n - (last + 1)) + 1 by omega, Nat.pow_succ, Nat.mul_comm (2 ^ _) 2, Nat.mul_assoc]
  have hp : 0 < 2 ^ (n - (last + 1)) := Nat.pow_pos (by omega)
  refine ⟨?_, by rw [← e]; exact Nat.le_mul_of_pos_right _ hp⟩
  rcases Nat.lt_or_ge (last + 1) n with h5 | h5
  ·exact .inr (.inl ⟨by omega, h5, e, h4⟩)
  ·obtain rfl : n = last + 1 := by omega
   refine .inr (.inr ⟨by omega, rfl, ?_⟩)
   rw [h4, ← e]; simp
 ·omega
def ofLen (ls : List Nat) (n s : Nat) : List Nat := (List.range s).filter fun j => ls.getD j 0 == n
def orderTo (ls : List Nat) (n : Nat) : List Nat := (List.range' 1 (n - 1)).flatMap fun m => ofLen ls m ls.length
theorem orderTo_succ (ls : List Nat) {n : Nat} (h : 1 ≤ n) : orderTo ls (n + 1) = orderTo ls n ++ ofLen ls n ls.length := by
 unfold orderTo
 obtain ⟨k, rfl⟩ : ∃ k, n = k + 1 := ⟨n - 1, by omega⟩
 simp only [Nat.add_sub_cancel]
 rw [List.range'_1_concat, List.flatMap_append]
 simp [Nat.add_comm]
theorem ofLen_succ {ls : List Nat} {n s : Nat} (hs : s < ls.length) : ofLen ls n (s + 1) = ofLen ls n s ++ if ls[s] = n then [s] else [] := by
 unfold ofLen
 rw [List.range_succ, List.filter_append]
 congr 1
 have e : ls.getD s 0 = ls[s] := by simp [List.getD, hs]
 simp only [List.filter_cons, List.filter_nil, e, beq_iff_eq]
theorem ofLen_length (ls : List Nat) (n : Nat) : ∀ s, s ≤ ls.length → (ofLen ls n s).length = (ls.take s).count n
 | 0, _ => by simp [ofLen]
 | s + 1, h => by
  rw [ofLen_succ (by omega), List.length_append, ofLen_length ls n s (by omega), count_take_succ (by omega)]
  congr 1
  split <;> rfl
theorem valAt_zero (ls : List Nat) : (List.range ls.length).map (valAt ls 1 0) = List.replicate ls.length 0 := by
 apply List.ext_getElem
 ·simp
 ·intro j h1 h2
  simp only [List.getElem_map, List.getElem_range, List.getElem_replicate, valAt]
  rw [if_neg (by omega)]
def cntTo (ls : List Nat) (i : Nat) : List Nat := (List.range 16).map fun x => (ls.take i).count x
theorem cntTo_set {ls : List Nat} {i x : Nat} (hi : i < ls.length) (hx : ls[i] = x) : (cntTo ls i).set x ((ls.take i).count x + 1) = cntTo ls (i + 1) := by
 apply List.ext_getElem
 ·simp [cntTo]
 ·intro j h1 h2
  rw [List.getElem_set]
  simp only [cntTo, List.getElem_map, List.getElem_range]
  rw [count_take_succ hi]
  by_cases h : x = j
  ·subst h; rw [if_pos rfl, if_pos hx]
  ·rw [if_neg h, if_neg (by omega)]; rfl
def cnts (ls : List Nat) : List Nat := (List.range 16).map (cn ls)
theorem cntTo_full (ls : List Nat) : (cntTo ls ls.length).set 0 0 = cnts ls := by
 apply List.ext_getElem
 ·simp [cntTo, cnts]
 ·intro j h1 h2
  rw [List.getElem_set]
  simp only [cntTo, cnts, List.getElem_map, List.getElem_range, List.take_length, cn]
  by_cases h : 0 = j
  ·subst h; simp
  ·rw [if_neg h, if_neg (fun e => h e.symm)]
def fstTo (ls : List Nat) (n : Nat) : List Nat := (List.range 16).map fun x => if x < n then fst ls x else 0
theorem fstTo_set {ls : List Nat} {n : Nat} (h : n < 16) : (fstTo ls n).set n (fst ls n) = fstTo ls (n + 1) := by
 apply List.ext_getElem
 ·simp [fstTo]
 ·intro j h1 h2
  rw [List.getElem_set]
  simp only [fstTo, List.getElem_map, List.getElem_range]
  by_cases h : n = j
  ·subst h; rw [if_pos rfl, if_pos (by omega)]
  ·rw [if_neg h]
   by_cases h3 : j < n
   ·rw [if_pos h3, if_pos (by omega)]
   ·rw [if_neg h3, if_neg (by omega)]
theorem fstTo_one (ls : List Nat) : fstTo ls 1 = List.replicate 16 0 := by
 apply List.ext_getElem
 ·simp [fstTo]
 ·intro j h1 h2
  simp only [fstTo, List.getElem_map, List.getElem_range, List.getElem_replicate]
  split
  ·obtain rfl : j = 0 := by omega
   rfl
  ·rfl
theorem cntTo_zero (ls : List Nat) : cntTo ls 0 = List.replicate 16 0 := by
 apply List.ext_getElem
 ·simp [cntTo]
 ·intro j h1 h2; simp [cntTo, -List.reduceReplicate]
theorem orderTo_le (ls : List Nat) : ∀ n, (orderTo ls (n + 1)).length ≤ n * ls.length
 | 0 => by simp [orderTo]
 | n + 1 => by
  rw [orderTo_succ ls (by omega), List.length_append, ofLen_length ls _ _ (Nat.le_refl _), List.take_length]
  have := orderTo_le ls n
  have := List.count_le_length (a := n + 1) (l := ls)
  rw [Nat.add_mul]; omega
end Go.Bn
end

section
set_option linter.unusedVariables false
set_option linter.unusedSimpArgs false
set_option maxHeartbeats 4000000
set_option maxRecDepth 20000
namespace Go.Bn
open Go Proofs
@[reducible] def iV (x : Int) : Value := .int .i64 x
@[reducible] def nV (x : Nat) : Value := .int .i64 (x : Int)
theorem one_iV (l : List Int) : ∀ u ∈ l.map iV, Value.one u = true := one_ints .i64 l
theorem one_nV (l : List Nat) : ∀ u ∈ l.map nV, Value.one u = true := by
 intro u hu; obtain ⟨x, _, rfl⟩ := List.mem_map.1 hu; rfl
theorem nV_iV (l : List Nat) : l.map nV = (l.map fun n : Nat => (n : Int)).map iV := by
 rw [List.map_map]; rfl
theorem indexFunc_spec {k n c : Nat} {A : Option Addr} {caps : Array Value} {li : List Int} {q : Int → Bool} {h0 : Heap} (hk : callOk Try.prog k = true) (hr : Rd h0 A (li.map iV)) (hl : li.length = n) (hn : n ≤ 17592186044416)
  (hq : ∀ x ∈ li, Ret Try.prog k (.int .i64 x :: caps.toList) h0 fun v h' => v = .bool (q x) ∧ h0 = h') :
  Ret Try.prog 131 [.slice A n c, .func (.func k) #[] caps] h0 fun v h' => ∃ r : Int, v = .int .i64 r ∧ (0 ≤ r ↔ li.any q = true) ∧ h0 = h' := by
 refine ret_of_X Try.func131 rfl rfl fun w0 hw0 => ?_
 simp only [argE, Nat.zero_add, Nat.reduceAdd]
 refine X_seq (X_reg (XA rfl rfl rfl (XR_nil (X_seq (X_seq (X_reg (XV rfl rfl rfl ?_)))))))
 refine XR_a (op_len rfl rfl rfl) rfl rfl ?_
 refine XV rfl rfl rfl (XR_nil (X_block ?_))
 refine X_loop (fun i => n - i) (fun i => [(0, .slice A n c), (1, .func (.func k) #[] caps), (7, .int .i64 (n : Int)), (8, .int .i64 (i : Int))])
  (fun (i : Nat) hp => h0 = hp ∧ i ≤ n ∧ ∀ x ∈ li.take i, q x = false) 0 (.cons rfl (.cons rfl (.cons rfl (.cons rfl (.nil _))))) ⟨rfl, by omega, by simp⟩ ?_
 rintro i hp ⟨rfl, hi, hno⟩
 refine X_seq (X_reg ?_)
 refine XR_a (op_lss rfl rfl) rfl rfl ?_
 refine XR_nil (X_seq ?_)
 refine X_if rfl (fun h => ?_) (fun h => ?_)
 ·have hin : i < li.length := by omega
  obtain ⟨gb, o, rfl, hc⟩ := hr.at_ (by rw [List.length_map]; omega)
  have hci := hc i (iV li[i]) (by simp [hin])
  refine X_skip (X_seq (X_block (X_seq (X_reg (XV rfl rfl rfl (XA rfl rfl rfl (XR_nil (X_seq (X_reg ?_)))))))))
  refine XV rfl rfl rfl (XV rfl rfl rfl (XV rfl rfl rfl ?_))
  first | refine XR_a (op_index1 rfl rfl rfl (by omega)) rfl rfl ?_ | refine XR_a (op_index rfl rfl rfl (by omega)) rfl rfl ?_
  refine XR_a (op_ld (hci) rfl rfl rfl) rfl rfl ?_
  refine XR_wa (opl_callV rfl (hq li[i] (List.getElem_mem hin)) rfl (hk)) rfl rfl rfl ?_
  rintro _ _ ⟨rfl, rfl⟩
  refine XR_nil ?_
  refine X_cond rfl (fun h => ?_) (fun h => ?_)
  ·refine X_seq (X_reg (XV rfl rfl rfl (XA rfl rfl rfl (XR_nil ?_))))
   refine X_ret (.cons (.tmp rfl) .nil) ?_
   refine ⟨i, rfl, ⟨fun _ => List.any_eq_true.2 ⟨_, List.getElem_mem hin, h⟩, fun _ => by omega⟩, rfl⟩
  ·refine X_skip (X_blk (X_reg ?_))
   first | refine XR_a (op_addN (n := 1) rfl rfl (by simp only [inK]; omega)) rfl rfl ?_ | refine XR_a (op_addI rfl rfl (by simp only [inK]; omega)) rfl rfl ?_ | refine XR_a (op_add rfl rfl) rfl rfl ?_
   refine XV rfl rfl rfl (XR_nil ?_)
   refine X_again (i + 1) (.cons rfl (.cons rfl (.cons rfl (.cons rfl (.nil _))))) ⟨rfl, by omega, fun x hx => ?_⟩ (by omega)
   rw [List.take_succ_eq_append_getElem hin] at hx
   rcases List.mem_append.1 hx with hx | hx
   ·exact hno x hx
   ·rw [List.mem_singleton.1 hx]; exact h
 ·refine X_exit rfl (X_seq (X_reg (XA rfl rfl rfl (XR_nil ?_))))
  refine X_ret (.cons (.tmp rfl) .nil) ?_
  refine ⟨-1, rfl, ⟨fun hh => by omega, fun hh => ?_⟩, rfl⟩
  rw [List.take_of_length_le (by omega)] at hno
  obtain ⟨x, hx, hqx⟩ := List.any_eq_true.1 hh
  rw [hno x hx] at hqx; cases hqx
theorem containsFunc_spec {k n c : Nat} {A : Option Addr} {caps : Array Value} {li : List Int} {q : Int → Bool} {h0 : Heap} (hk : callOk Try.prog k = true) (hr : Rd h0 A (li.map iV)) (hl : li.length = n) (hn : n ≤ 17592186044416)
  (hq : ∀ x ∈ li, Ret Try.prog k (.int .i64 x :: caps.toList) h0 fun v h' => v = .bool (q x) ∧ h0 = h') :
  Ret Try.prog 104 [.slice A n c, .func (.func k) #[] caps] h0 fun v h' => v = .bool (li.any q) ∧ h0 = h' := by
 refine ret_of_X Try.func104 rfl rfl fun w0 hw0 => ?_
 simp only [argE, Nat.zero_add, Nat.reduceAdd]
 refine X_seq (X_reg (XA rfl rfl rfl (XR_nil (X_seq (X_reg (XV rfl rfl rfl (XV rfl rfl rfl ?_)))))))
 refine XR_wa (opl_call (indexFunc_spec hk hr hl hn hq) rfl (by kernel_rfl)) rfl rfl rfl ?_
 rintro _ _ ⟨r, rfl, hr2, rfl⟩
 refine XR_a (op_geq rfl rfl) rfl rfl ?_
 refine XA rfl rfl rfl (XR_nil ?_)
 refine X_ret (.cons (.tmp rfl) .nil) ?_
 refine ⟨congrArg Value.bool ?_, rfl⟩
 rw [Bool.eq_iff_iff, decide_eq_true_iff]; exact hr2
theorem right1_canon (x : Int) (h0 : Heap) : Ret Try.prog 113 [.int .i64 x] h0 fun v h' => v = .bool (decide (x < 0 ∨ 15 < x)) ∧ h0 = h' := by
 refine ret_of_X Try.func113 rfl rfl fun w0 hw0 => ?_
 simp only [argE, Nat.zero_add, Nat.reduceAdd]
 refine X_seq (X_reg (XA rfl rfl rfl (XR_nil (X_seq (X_reg (XV rfl rfl rfl ?_))))))
 refine XR_a (op_lss rfl rfl) rfl rfl ?_
 refine XV rfl rfl rfl ?_
 refine XR_if 5 rfl (fun h => ?_) (fun h => ?_)
 ·refine XR_no rfl rfl (XR_no rfl rfl (XR_a (op_pick_t rfl rfl) rfl rfl (XA rfl rfl rfl (XR_nil ?_))))
  refine X_ret (.cons (.tmp rfl) .nil) ?_
  first
   | exact ⟨congrArg Value.bool (decide_eq_true (by omega)).symm, rfl⟩
   | exact ⟨congrArg Value.bool (decide_eq_decide.2 ⟨fun hh => by omega, fun hh => by omega⟩), rfl⟩
 ·refine XV rfl rfl rfl ?_
  refine XR_a (op_gtr rfl rfl) rfl rfl ?_
  refine XR_a (op_pick_f rfl rfl) rfl rfl (XA rfl rfl rfl (XR_nil ?_))
  refine X_ret (.cons (.tmp rfl) .nil) ?_
  first
   | exact ⟨congrArg Value.bool (decide_eq_true (by omega)).symm, rfl⟩
   | exact ⟨congrArg Value.bool (decide_eq_decide.2 ⟨fun hh => by omega, fun hh => by omega⟩), rfl⟩
theorem right1_weigh {p : Nat} {most : Int} (x : Int) {h0 : Heap} (hc : cellH h0 ⟨p, 0, none⟩ = some (.int .i64 most)) : Ret Try.prog 105 [.int .i64 x, .pointer (some ⟨p, 0, none⟩)] h0 fun v h' => v = .bool (decide (x < 0 ∨ most < x)) ∧ h0 = h' := by
 refine ret_of_X Try.func105 rfl rfl fun w0 hw0 => ?_
 simp only [argE, Nat.zero_add, Nat.reduceAdd]
 refine X_seq (X_reg (XA rfl rfl rfl (XR_nil (X_seq (X_reg (XV rfl rfl rfl ?_))))))
 refine XR_a (op_lss rfl rfl) rfl rfl ?_
 refine XV rfl rfl rfl ?_
 refine XR_if 6 rfl (fun h => ?_) (fun h => ?_)
 ·refine XR_no rfl rfl (XR_no rfl rfl (XR_no rfl rfl (XR_a (op_pick_t rfl rfl) rfl rfl (XA rfl rfl rfl (XR_nil ?_)))))
  refine X_ret (.cons (.tmp rfl) .nil) ?_
  first
   | exact ⟨congrArg Value.bool (decide_eq_true (by omega)).symm, rfl⟩
   | exact ⟨congrArg Value.bool (decide_eq_decide.2 ⟨fun hh => by omega, fun hh => by omega⟩), rfl⟩
 ·refine XV rfl rfl rfl ?_
  refine XR_a (op_ld (hc) rfl rfl rfl) rfl rfl ?_
  refine XR_a (op_gtr rfl rfl) rfl rfl ?_
  refine XR_a (op_pick_f rfl rfl) rfl rfl (XA rfl rfl rfl (XR_nil ?_))
  refine X_ret (.cons (.tmp rfl) .nil) ?_
  first
   | exact ⟨congrArg Value.bool (decide_eq_true (by omega)).symm, rfl⟩
   | exact ⟨congrArg Value.bool (decide_eq_decide.2 ⟨fun hh => by omega, fun hh => by omega⟩), rfl⟩
def boundedB (most : Int) (li : List Int) : Prop := li.length ≤ 320 ∧ ∀ x ∈ li, 0 ≤ x ∧ x ≤ most
instance (most : Int) (li : List Int) : Decidable (boundedB most li) := by unfold boundedB; infer_instance
theorem any_out (most : Int) (li : List Int) : (!li.any fun x => decide (x < 0 ∨ most < x)) = decide (∀ x ∈ li, 0 ≤ x ∧ x ≤ most) := by
 rw [Bool.eq_iff_iff]
 simp only [Bool.not_eq_true', List.any_eq_false, decide_eq_true_iff]
 exact ⟨fun h x hx => by have := h x hx; omega, fun h x hx => by have := h x hx; omega⟩
theorem wright_spec {n c : Nat} {A : Option Addr} {li : List Int} (most : Int) {h0 : Heap} (hr : Rd h0 A (li.map iV)) (hl : li.length = n) (hn : n ≤ 17592186044416) :
  Ret Try.prog 80 [.slice A n c, .int .i64 most] h0 fun v h' => v = .bool (decide (boundedB most li)) ∧ Ext h0 h' := by
 refine ret_of_X Try.func80 rfl rfl fun w0 hw0 => ?_
 simp only [argE, Nat.zero_add, Nat.reduceAdd]
 have st := St.start h0
 refine X_seq (X_reg ?_)
 refine XR_wa (opl_bx rfl rfl) rfl rfl rfl ?_
 rintro _ hp ⟨p, rfl, hnew⟩
 have st := st.new hnew
 refine XA rfl rfl rfl (XR_nil (X_seq (X_reg (XV rfl rfl rfl ?_))))
 refine XR_a (op_len rfl rfl rfl) rfl rfl ?_
 refine XR_a (op_leq rfl rfl) rfl rfl ?_
 refine XV rfl rfl rfl ?_
 refine XR_if 8 rfl (fun h => ?_) (fun h => ?_)
 ·refine XV rfl rfl rfl ?_
  refine XR_a (op_mkFunc rfl) rfl rfl ?_
  refine XR_wa (opl_call (containsFunc_spec (q := fun x => decide (x < 0 ∨ most < x)) (by kernel_rfl) (hr.ext st.low) hl hn (fun x _ => right1_weigh x (st.cell 0 (i := 0) rfl rfl))) rfl (by kernel_rfl)) rfl rfl rfl ?_
  rintro _ _ ⟨rfl, rfl⟩
  refine XR_a (op_not rfl) rfl rfl ?_
  rw [any_out]
  refine XR_a (op_pick_t rfl rfl) rfl rfl (XA rfl rfl rfl (XR_nil ?_))
  refine X_ret (.cons (.tmp rfl) .nil) ?_
  exact ⟨congrArg Value.bool (decide_eq_decide.2 ⟨fun hh => ⟨by omega, hh⟩, fun hh => hh.2⟩), st.low⟩
 ·refine XR_no rfl rfl (XR_no rfl rfl (XR_no rfl rfl (XR_no rfl rfl (XR_a (op_pick_f rfl rfl) rfl rfl (XA rfl rfl rfl (XR_nil ?_))))))
  refine X_ret (.cons (.tmp rfl) .nil) ?_
  exact ⟨congrArg Value.bool (decide_eq_false (fun hh => by have := hh.1; omega)).symm, st.low⟩
theorem toNat_map {li : List Int} (h : ∀ x ∈ li, 0 ≤ x) : (li.map Int.toNat).map (fun n : Nat => (n : Int)) = li := by
 rw [List.map_map]
 conv => rhs; rw [← List.map_id li]
 refine List.map_congr_left fun x hx => ?_
 have := h x hx
 simp only [Function.comp, id]; omega
theorem wfull_spec {n c : Nat} {A : Option Addr} {li : List Int} {h0 : Heap} (hr : Rd h0 A (li.map iV)) (hl : li.length = n) (hb : boundedB 15 li) :
  Ret Try.prog 114 [.slice A n c] h0 fun v h' => v = .bool (decide (kraft (li.map Int.toNat) = 32768)) ∧ Ext h0 h' := by
 have hn : n ≤ 320 := by rw [← hl]; exact hb.1
 refine ret_of_X Try.func114 rfl rfl fun w0 hw0 => ?_
 simp only [argE, Nat.zero_add, Nat.reduceAdd]
 refine X_seq (X_reg (XA rfl rfl rfl (XR_nil (X_seq (X_seq (X_reg (XV rfl rfl rfl ?_)))))))
 refine XR_wa (opl_call (wright_spec 15 hr hl (by omega)) rfl (by kernel_rfl)) rfl rfl rfl ?_
 rintro _ hp ⟨rfl, hx⟩
 rw [decide_eq_true hb]
 first | refine XR_a (op_notd rfl) rfl rfl ?_ | refine XR_a (op_not rfl) rfl rfl ?_
 refine XR_nil (X_else rfl (X_skip (X_seq (X_reg (XA rfl rfl rfl (XR_nil (X_seq (X_seq (X_reg ?_)))))))))
 refine XV rfl rfl rfl ?_
 refine XR_a (op_len rfl rfl rfl) rfl rfl ?_
 refine XV rfl rfl rfl (XR_nil (X_block ?_))
 have st := (St.start h0).ext hx
 refine X_loop (fun i => n - i) (fun i => [(9, .slice A n c), (10, .int .i64 (n : Int)), (11, .int .i64 (i : Int)), (3, .int .i64 ((kraft ((li.map Int.toNat).take i) : Nat) : Int))])
  (fun (i : Nat) hp => St h0.size h0 hp [] ∧ i ≤ n ∧ kraft ((li.map Int.toNat).take i) ≤ 16384 * i) 0 (.cons rfl (.cons rfl (.cons rfl (.cons rfl (.nil _))))) ⟨st, by omega, by simp [kraft]⟩ ?_
 clear st hx
 rintro i hp ⟨st, hi, hk⟩
 refine X_seq (X_reg ?_)
 refine XR_a (op_lss rfl rfl) rfl rfl ?_
 refine XR_nil (X_seq ?_)
 refine X_if rfl (fun h => ?_) (fun h => ?_)
 ·have hin : i < li.length := by omega
  obtain ⟨gb, o, rfl, hc⟩ := (hr.ext st.low).at_ (by rw [List.length_map]; omega)
  have hci := hc i (iV li[i]) (by simp [hin])
  have hbi := hb.2 li[i] (List.getElem_mem hin)
  have htk : kraft ((li.map Int.toNat).take (i + 1)) = kraft ((li.map Int.toNat).take i) + unitK (li[i]).toNat := by
   rw [List.take_succ_eq_append_getElem (by simpa using hin)]; simp [kraft]
  obtain ⟨x, hx⟩ : ∃ x : Nat, li[i] = x := ⟨(li[i]).toNat, by omega⟩
  rw [hx] at hci hbi htk
  rw [Int.toNat_natCast] at htk
  have hu : unitK x ≤ 16384 := by
   unfold unitK
   split
   ·omega
   ·exact Nat.le_trans (Nat.pow_le_pow_right (by omega) (show 15 - x ≤ 14 by omega)) (by decide)
  refine X_skip (X_seq (X_block (X_seq (X_reg ?_))))
  first | refine XR_a (op_index1 rfl rfl rfl (by omega)) rfl rfl ?_ | refine XR_a (op_index rfl rfl rfl (by omega)) rfl rfl ?_
  refine XR_a (op_ld (hci) rfl rfl rfl) rfl rfl ?_
  refine XA rfl rfl rfl (XR_nil (X_seq (X_reg (XV rfl rfl rfl ?_))))
  refine XR_a (op_gtr rfl rfl) rfl rfl ?_
  refine XR_nil ?_
  refine X_if rfl (fun h => ?_) (fun h => ?_)
  ·have hu1 : unitK x = 2 ^ (15 - x) := by unfold unitK; rw [if_neg (by omega)]
   have hp1 : 1 ≤ 2 ^ (15 - x) := Nat.pow_pos (by omega)
   refine X_reg (XV rfl rfl rfl (XV rfl rfl rfl ?_))
   refine XR_a (op_subN (m := 15) (n := x) rfl rfl (by omega) (by simp only [inK]; omega)) rfl rfl ?_
   refine XR_a (op_shlC (m := 1) (15 - x) rfl rfl (by simp only [IntKind.bits]; omega) (by rw [Nat.one_mul, ← hu1]; simp only [inK]; omega)) rfl rfl ?_
   rw [Nat.one_mul, ← hu1]
   first | refine XR_a (op_addN rfl rfl (by simp only [inK]; omega)) rfl rfl ?_ | refine XR_a (op_addI rfl rfl (by simp only [inK]; omega)) rfl rfl ?_ | refine XR_a (op_add rfl rfl) rfl rfl ?_
   refine XA rfl rfl rfl (XR_nil (X_blk (X_reg ?_)))
   first | refine XR_a (op_addN (n := 1) rfl rfl (by simp only [inK]; omega)) rfl rfl ?_ | refine XR_a (op_addI rfl rfl (by simp only [inK]; omega)) rfl rfl ?_ | refine XR_a (op_add rfl rfl) rfl rfl ?_
   refine XV rfl rfl rfl (XR_nil ?_)
   exact X_again (i + 1) (.cons rfl (.cons rfl (.cons rfl (.cons (by rw [htk]; rfl) (.nil _))))) ⟨st, by omega, by rw [htk]; omega⟩ (by omega)
  ·have hu0 : unitK x = 0 := by unfold unitK; rw [if_pos (by omega)]
   refine X_skip (X_blk (X_reg ?_))
   first | refine XR_a (op_addN (n := 1) rfl rfl (by simp only [inK]; omega)) rfl rfl ?_ | refine XR_a (op_addI rfl rfl (by simp only [inK]; omega)) rfl rfl ?_ | refine XR_a (op_add rfl rfl) rfl rfl ?_
   refine XV rfl rfl rfl (XR_nil ?_)
   exact X_again (i + 1) (.cons rfl (.cons rfl (.cons rfl (.cons (by rw [htk, hu0]; rfl) (.nil _))))) ⟨st, by omega, by rw [htk]; omega⟩ (by omega)
 ·rw [List.take_of_length_le (by rw [List.length_map]; omega)]
  refine X_exit rfl (X_seq (X_reg (XV rfl rfl rfl ?_)))
  refine XR_a (op_eql rfl rfl) rfl rfl ?_
  refine XA rfl rfl rfl (XR_nil ?_)
  refine X_ret (.cons (.tmp rfl) .nil) ?_
  exact ⟨congrArg Value.bool (decide_eq_decide.2 ⟨fun hh => by omega, fun hh => by omega⟩), st.low⟩
theorem single_spec {n c : Nat} {A : Option Addr} {li : List Int} {h0 : Heap} (hr : Rd h0 A (li.map iV)) (hl : li.length = n) (hb : boundedB 15 li) :
  Ret Try.prog 115 [.slice A n c] h0 fun v h' => v = .bool (decide ((li.map Int.toNat).sum = 1)) ∧ h0 = h' := by
 have hn : n ≤ 320 := by rw [← hl]; exact hb.1
 refine ret_of_X Try.func115 rfl rfl fun w0 hw0 => ?_
 simp only [argE, Nat.zero_add, Nat.reduceAdd]
 refine X_seq (X_reg (XA rfl rfl rfl (XR_nil (X_seq (X_reg (XA rfl rfl rfl (XR_nil (X_seq (X_seq ?_)))))))))
 refine X_reg (XV rfl rfl rfl ?_)
 refine XR_a (op_len rfl rfl rfl) rfl rfl ?_
 refine XV rfl rfl rfl (XR_nil (X_block ?_))
 refine X_loop (fun i => n - i) (fun i => [(6, .slice A n c), (7, .int .i64 (n : Int)), (8, .int .i64 (i : Int)), (3, .int .i64 ((((li.map Int.toNat).take i).sum : Nat) : Int))])
  (fun (i : Nat) hp => h0 = hp ∧ i ≤ n ∧ ((li.map Int.toNat).take i).sum ≤ 15 * i) 0 (.cons rfl (.cons rfl (.cons rfl (.cons rfl (.nil _))))) ⟨rfl, by omega, by simp⟩ ?_
 rintro i hp ⟨rfl, hi, hk⟩
 refine X_seq (X_reg ?_)
 refine XR_a (op_lss rfl rfl) rfl rfl ?_
 refine XR_nil (X_seq ?_)
 refine X_if rfl (fun h => ?_) (fun h => ?_)
 ·have hin : i < li.length := by omega
  obtain ⟨gb, o, rfl, hc⟩ := hr.at_ (by rw [List.length_map]; omega)
  have hci := hc i (iV li[i]) (by simp [hin])
  have hbi := hb.2 li[i] (List.getElem_mem hin)
  have htk : ((li.map Int.toNat).take (i + 1)).sum = ((li.map Int.toNat).take i).sum + (li[i]).toNat := by
   rw [List.take_succ_eq_append_getElem (by simpa using hin)]; simp
  obtain ⟨x, hx⟩ : ∃ x : Nat, li[i] = x := ⟨(li[i]).toNat, by omega⟩
  rw [hx] at hci hbi htk
  rw [Int.toNat_natCast] at htk
  refine X_skip (X_seq (X_block (X_seq (X_reg ?_))))
  first | refine XR_a (op_index1 rfl rfl rfl (by omega)) rfl rfl ?_ | refine XR_a (op_index rfl rfl rfl (by omega)) rfl rfl ?_
  refine XR_a (op_ld (hci) rfl rfl rfl) rfl rfl ?_
  refine XA rfl rfl rfl (XR_nil (X_reg (XV rfl rfl rfl (XV rfl rfl rfl ?_))))
  first | refine XR_a (op_addN rfl rfl (by simp only [inK]; omega)) rfl rfl ?_ | refine XR_a (op_addI rfl rfl (by simp only [inK]; omega)) rfl rfl ?_ | refine XR_a (op_add rfl rfl) rfl rfl ?_
  refine XA rfl rfl rfl (XR_nil (X_blk (X_reg ?_)))
  first | refine XR_a (op_addN (n := 1) rfl rfl (by simp only [inK]; omega)) rfl rfl ?_ | refine XR_a (op_addI rfl rfl (by simp only [inK]; omega)) rfl rfl ?_ | refine XR_a (op_add rfl rfl) rfl rfl ?_
  refine XV rfl rfl rfl (XR_nil ?_)
  exact X_again (i + 1) (.cons rfl (.cons rfl (.cons rfl (.cons (by rw [htk]; rfl) (.nil _))))) ⟨rfl, by omega, by rw [htk]; omega⟩ (by omega)
 ·rw [List.take_of_length_le (by rw [List.length_map]; omega)]
  refine X_exit rfl (X_seq (X_reg (XV rfl rfl rfl ?_)))
  refine XR_a (op_eql rfl rfl) rfl rfl ?_
  refine XA rfl rfl rfl (XR_nil ?_)
  refine X_ret (.cons (.tmp rfl) .nil) ?_
  exact ⟨congrArg Value.bool (decide_eq_decide.2 ⟨fun hh => by omega, fun hh => by omega⟩), rfl⟩
def rightC (li : List Int) : Prop := 1 ≤ li.length ∧ boundedB 15 li ∧ (kraft (li.map Int.toNat) = 32768 ∨ (li.map Int.toNat).sum = 1)
instance (li : List Int) : Decidable (rightC li) := by unfold rightC; infer_instance
theorem rightC.ok {li : List Int} (h : rightC li) : lensOK (li.map Int.toNat) := by
 refine ⟨by rw [List.length_map]; exact h.1, by rw [List.length_map]; exact h.2.1.1, fun x hx => ?_, h.2.2⟩
 obtain ⟨y, hy, rfl⟩ := List.mem_map.1 hx
 have := h.2.1.2 y hy; omega
theorem cright_spec {n c : Nat} {A : Option Addr} {li : List Int} {h0 : Heap} (hr : Rd h0 A (li.map iV)) (hl : li.length = n) (hn : n ≤ 17592186044416) :
  Ret Try.prog 85 [.slice A n c] h0 fun v h' => v = .bool (decide (rightC li)) ∧ Ext h0 h' := by
 refine ret_of_X Try.func85 rfl rfl fun w0 hw0 => ?_
 simp only [argE, Nat.zero_add, Nat.reduceAdd]
 refine X_seq (X_reg (XA rfl rfl rfl (XR_nil (X_seq (X_seq (X_reg (XV rfl rfl rfl ?_)))))))
 refine XR_a (op_len rfl rfl rfl) rfl rfl ?_
 refine XR_a (op_lss rfl rfl) rfl rfl ?_
 refine XV rfl rfl rfl ?_
 refine XR_if 6 rfl (fun h => ?_) (fun h => ?_)
 ·refine XR_no rfl rfl (XR_no rfl rfl (XR_no rfl rfl (XR_a (op_pick_t rfl rfl) rfl rfl (XV rfl rfl rfl (XR_no rfl rfl (XR_no rfl rfl (XR_a (op_pick_t rfl rfl) rfl rfl (XR_nil (X_then rfl ?_)))))))))
  refine X_seq (X_reg (XA rfl rfl rfl (XR_nil ?_)))
  refine X_ret (.cons (.tmp rfl) .nil) ?_
  exact ⟨congrArg Value.bool (decide_eq_false (fun hh => by have := hh.1; omega)).symm, Ext.refl _⟩
 ·refine XV rfl rfl rfl ?_
  refine XR_a (op_len rfl rfl rfl) rfl rfl ?_
  refine XR_a (op_gtr rfl rfl) rfl rfl ?_
  refine XR_a (op_pick_f rfl rfl) rfl rfl (XV rfl rfl rfl ?_)
  refine XR_if 11 rfl (fun h => ?_) (fun h => ?_)
  ·refine XR_no rfl rfl (XR_no rfl rfl (XR_a (op_pick_t rfl rfl) rfl rfl (XR_nil (X_then rfl (X_seq (X_reg (XA rfl rfl rfl (XR_nil ?_))))))))
   refine X_ret (.cons (.tmp rfl) .nil) ?_
   exact ⟨congrArg Value.bool (decide_eq_false (fun hh => by have := hh.2.1.1; omega)).symm, Ext.refl _⟩
  ·refine XV rfl rfl rfl ?_
   refine XR_wa (opl_call (containsFunc_spec (q := fun x => decide (x < 0 ∨ 15 < x)) (caps := #[]) (by kernel_rfl) hr hl hn (fun x _ => right1_canon x _)) rfl (by kernel_rfl)) rfl rfl rfl ?_
   rintro _ _ ⟨rfl, rfl⟩
   have hany := any_out 15 li
   refine XR_a (op_pick_f rfl rfl) rfl rfl (XR_nil ?_)
   refine X_cond rfl (fun h => ?_) (fun h => ?_)
   ·refine X_seq (X_reg (XA rfl rfl rfl (XR_nil ?_)))
    refine X_ret (.cons (.tmp rfl) .nil) ?_
    refine ⟨congrArg Value.bool (decide_eq_false (fun hh => ?_)).symm, Ext.refl _⟩
    rw [h] at hany
    have h9 := hh.2.1.2
    rw [decide_eq_true h9] at hany; cases hany
   ·have hb : boundedB 15 li := by
     rw [h] at hany
     exact ⟨by omega, of_decide_eq_true hany.symm⟩
    refine X_skip (X_seq (X_reg (XV rfl rfl rfl ?_)))
    refine XR_wa (opl_call (wfull_spec hr hl hb) rfl (by kernel_rfl)) rfl rfl rfl ?_
    rintro _ hp ⟨rfl, hx⟩
    refine XV rfl rfl rfl ?_
    refine XR_if 17 rfl (fun h => ?_) (fun h => ?_)
    ·refine XR_no rfl rfl (XR_no rfl rfl (XR_a (op_pick_t rfl rfl) rfl rfl (XA rfl rfl rfl (XR_nil ?_))))
     refine X_ret (.cons (.tmp rfl) .nil) ?_
     exact ⟨congrArg Value.bool (decide_eq_true ⟨by omega, hb, .inl h⟩).symm, hx⟩
    ·refine XV rfl rfl rfl ?_
     refine XR_wa (opl_call (single_spec (hr.ext hx) hl hb) rfl (by kernel_rfl)) rfl rfl rfl ?_
     rintro _ _ ⟨rfl, rfl⟩
     refine XR_a (op_pick_f rfl rfl) rfl rfl (XA rfl rfl rfl (XR_nil ?_))
     refine X_ret (.cons (.tmp rfl) .nil) ?_
     exact ⟨congrArg Value.bool (decide_eq_decide.2 ⟨fun hh => ⟨by omega, hb, .inr hh⟩, fun hh => hh.2.2.resolve_left h⟩), hx⟩
end Go.Bn
end

section
namespace Go.Bn
open Go
def schK (cs : CF) (ops : Array Oper) (b : Array Nat) (fin : Array Bool → Bool) : List Nat → Array Bool → Bool
  | [], listed => fin listed
  | k :: rest, listed => (match ops[k]? with
      | none => false
      | some ok => match cs k ok with
        | .pure | .load => (Region.ready .any ops listed).contains k && quietAt cs ops b listed k
        | _ => Region.ready .any ops listed == [k]) && schK cs ops b fin rest (listed.setIfInBounds k true)
def schB2 (cs : CF) (ops : Array Oper) (pre : List Nat) (x1 : Nat) (r1 : List Nat) (x2 : Nat) (r2 : List Nat) : Bool :=
  Region.noSelect ops && befOk (Region.before ops) ops && Nat.beq (pre.length + (r1.length + 1)) ops.size && Nat.beq r1.length r2.length &&
  schK cs ops (Region.before ops) (fun listed => Region.ready .any ops listed == [x1, x2] && sch cs ops (Region.before ops) r1 (listed.setIfInBounds x1 true) && sch cs ops (Region.before ops) r2 (listed.setIfInBounds x2 true))
    pre (Array.replicate ops.size false)
theorem rgl_anyK {S : Exit → Act → World → Prop} (hIn : ∀ e a d v w, S e (Act.put a d v) w → S e a w) {cs : CF} {P : Program} {ops : Array Oper} {N N' : Act → World → Prop} {b : Array Nat} {m : Nat} {fin : Array Bool → Bool} (hs : Region.noSelect ops = true) (hbk : befOk b ops = true)
  (hf : ∀ (listed : Array Bool) (a : Act) (w : World), Closed ops listed → fin listed = true → N' a w → anyC cs P S ops N m listed a w) :
  ∀ (ord : List Nat) (listed : Array Bool) (a : Act) (w : World), Closed ops listed → schK cs ops b fin ord listed = true → rgl cs P S ops N' ord a w → anyC cs P S ops N (ord.length + m) listed a w
 | [], listed, a, w, hc, hB, h => by rw [List.length_nil, Nat.zero_add]; exact hf listed a w hc hB h
 | k :: rest, listed, a, w, hc, hB, h => by
  rw [show (k :: rest).length + m = (rest.length + m) + 1 by simp; omega]
  simp only [schK, Bool.and_eq_true] at hB
  obtain ⟨h1, h2⟩ := hB
  have h0 : stepI cs P S ops k a w (rgl cs P S ops N' rest) := h
  obtain ⟨ok, hok, _⟩ := id h0
  have quiet : (cs k ok = .pure ∨ cs k ok = .load) → (Region.ready .any ops listed).contains k = true → quietAt cs ops b listed k = true → anyC cs P S ops N (rest.length + m + 1) listed a w := by
   intro hcl hr hq
   have hrk : k ∈ Region.ready .any ops listed := by simpa using hr
   have hklt := (Array.getElem?_eq_some_iff.1 hok).1
   obtain ⟨v, hy, hk⟩ := gives_of_stepI hok hcl h0
   refine anyC_first hIn hok (Region.noSelect_spec hs) (fun l => Closed ops l ∧ ∀ j, listed.getD j true = true → l.getD j true = true) ?_ ?_ (rest.length + m) listed a w ⟨hc, fun _ h => h⟩ hrk hy
    (rgl_anyK hIn hs hbk hf rest _ _ _ (hc.set hrk) h2 hk)
   ·intro l j ⟨hcl', hmono⟩ hj hne hun
    refine ⟨hcl'.set hj, fun i hi => ?_⟩
    by_cases hji : j = i
    ·subst hji
     have hlt : j < l.size := by
      rcases Nat.lt_or_ge j l.size with h | h
      ·exact h
      ·exact absurd (mem_ready.1 hj).1 (by simp [Array.getElem?_eq_none h])
     simp [hlt]
    ·rw [getD_set_ne true hji]; exact hmono i hi
   ·intro l j oj ⟨hcl', hmono⟩ hoj hj hne hun
    have hjlt := (Array.getElem?_eq_some_iff.1 hoj).1
    obtain ⟨hjun, oj', hoj', hall⟩ := mem_ready.1 hj
    obtain rfl : oj' = oj := Option.some.inj (hoj'.symm.trans hoj)
    unfold quietAt at hq
    simp only [hok] at hq
    have h3 := List.all_eq_true.1 hq j (List.mem_range.2 hjlt)
    have hnl : listed.getD j true = false := by
     cases hl : listed.getD j true with
     | false => rfl
     | true => rw [hmono j hl] at hjun; cases hjun
    simp only [hnl, hoj, Bool.or_false, Bool.or_eq_true, Bool.and_eq_true] at h3
    rcases h3 with (h3 | h3) | h3
    ·exact absurd (Nat.eq_of_beq_eq_true h3) hne
    ·exfalso
     obtain ⟨e, he, hbi, hlt, hor⟩ := befOk_spec hbk hoj hklt h3
     have hle := hall e he hbi
     rcases hor with rfl | hb'
     ·exact not_both hun hle
     ·exact closed_not hbk hcl' hklt hun e.on hle hb' (by omega)
    ·have h4 := h3
     refine ⟨h4.1, fun hl hw => ?_⟩
     have h5 := h4.2
     rw [hl, hw] at h5
     cases h5
  have loud : Region.ready .any ops listed = [k] → anyC cs P S ops N (rest.length + m + 1) listed a w := by
   intro hr
   refine ⟨fun h => (by rw [hr] at h; cases h), fun i hi => ?_⟩
   rw [hr] at hi
   obtain rfl : i = k := by simpa using hi
   exact h0.mono fun a' w' h' => rgl_anyK hIn hs hbk hf rest _ _ _ (hc.set (by rw [hr]; simp)) h2 h'
  simp only [hok] at h1
  generalize hcl : cs k ok = cl at h1
  cases cl with
  | pure => simp only [Bool.and_eq_true] at h1; exact quiet (.inl hcl) h1.1 h1.2
  | load => simp only [Bool.and_eq_true] at h1; exact quiet (.inr hcl) h1.1 h1.2
  | grow => exact loud (by simpa using h1)
  | wild => exact loud (by simpa using h1)
theorem wp_region_two {r : Option Nat} {P : Program} {id : Nat} {ops : Array Oper} {Q S : Exit → Act → World → Prop} (hS : ∀ e a w, S e a w → Q e a w) (hIn : ∀ e a d v w, S e (Act.put a d v) w → S e a w) {a : Act} {w : World} (cs : CF) (pre : List Nat) (x1 : Nat) (r1 : List Nat) (x2 : Nat) (r2 : List Nat)
  (hD : r = none ∨ noDefer ops = true) (hm : P.follows .mixedOrders = true) (hB : schB2 cs ops pre x1 r1 x2 r2 = true)
  (h : rgl cs P S ops (fun a w => rgl cs P S ops (Q .normal) (x1 :: r1) a w ∧ rgl cs P S ops (Q .normal) (x2 :: r2) a w) pre a { w with drawn := w.drawn + 1 }) : (Code.region id ops true).wpIn (wdF r) 0 P Q a w := by
 simp only [schB2, Bool.and_eq_true] at hB
 obtain ⟨⟨⟨⟨hs, hb⟩, hl⟩, hl2⟩, hsch⟩ := hB
 refine wpIn_region_any hm (anyC.wpAny (cs := cs) hS hD _ _ _ _ ?_)
 have key := rgl_anyK (N := Q .normal) (m := r1.length + 1) hIn hs hb ?_ pre (Array.replicate ops.size false) a { w with drawn := w.drawn + 1 } (fun j oj _ hl' => absurd hl' (by
  rw [getD_replicate_false]; exact Bool.false_ne_true)) hsch h
 ·rw [Nat.eq_of_beq_eq_true hl] at key
  exact key
 ·intro listed a w hc hf hN
  simp only [Bool.and_eq_true] at hf
  obtain ⟨⟨hr, hs1⟩, hs2⟩ := hf
  have hr : Region.ready .any ops listed = [x1, x2] := by simpa using hr
  refine ⟨fun h => (by rw [hr] at h; cases h), fun i hi => ?_⟩
  rw [hr] at hi
  rcases List.mem_cons.1 hi with rfl | hi'
  ·exact stepI.mono (fun a' w' h' => rgl_any hIn hs hb r1 _ _ _ (hc.set (by rw [hr]; simp)) hs1 h') hN.1
  ·obtain rfl : i = x2 := by simpa using hi'
   have := stepI.mono (fun a' w' h' => rgl_any hIn hs hb r2 _ _ _ (hc.set (by rw [hr]; simp)) hs2 h') hN.2
   rw [← Nat.eq_of_beq_eq_true hl2] at this
   exact this
theorem rgp_mono {S : Exit → Act → World → Prop} {cs : CF} {P : Program} {ops : Array Oper} {N N' : Act → World → Prop} (hm : ∀ a w, N a w → N' a w) : ∀ (l : List (Nat × Oper)) (a : Act) (w : World), rgp cs P S ops N l a w → rgp cs P S ops N' l a w
 | [], a, w, h => hm a w h
 | (i, o) :: rest, a, w, h => by
  simp only [rgp] at h ⊢
  split
  ·rename_i hw; rw [if_pos hw] at h; exact h.mono (rgp_mono hm rest)
  ·rename_i hw; rw [if_neg hw] at h; exact rgp_mono hm rest _ _ h
def MeetJ (c : Cx) {σ : Type} (EI : σ → Env) (HI : σ → Heap → Prop) (a : Act) (w : World) : Prop := ∃ s, (OK c.fn.ntmps (EI s) a ∧ a.defers = c.D) ∧ Inv c.w0 w ∧ HI s w.heap
def AltJ (c : Cx) (cs : CF) (ops : Array Oper) (l1 l2 : List (Nat × Oper)) (k : List SItem) (a : Act) (w : World) : Prop := rgp cs c.P (PQ c k) ops (SQ c k .normal) l1 a w ∧ rgp cs c.P (PQ c k) ops (SQ c k .normal) l2 a w
variable {c : Cx} {k : List SItem} {E : Env} {hp : Heap}
theorem PQ_inv (J : Act → World → Prop) : PQ c (.inv J :: k) = PQ c k := by
 funext e a w; cases e <;> rfl
attribute [local semireducible] X XR in
theorem X_draw_two {id : Nat} {l : List Oper} (cs : CF) (pre : List Nat) (x1 : Nat) (r1 : List Nat) (x2 : Nat) (r2 : List Nat) {lp l1 l2 : List (Nat × Oper)} (hm : c.P.follows .mixedOrders = true)
  (hB : schB2 cs l.toArray pre x1 r1 x2 r2 = true) (hl : pick l pre = some lp) (hl1 : pick l (x1 :: r1) = some l1) (hl2 : pick l (x2 :: r2) = some l2)
  (h : XR c cs l.toArray lp (.inv (AltJ c cs l.toArray l1 l2 k) :: k) E hp) (hD0 : c.r = none ∨ noDeferL l = true := by first | exact .inl rfl | exact .inr rfl) (hE0 : c.pd = true := by rfl) : X c (.code (.region id l.toArray true) :: k) E hp := by
 intro a w ho hi hw
 have hD := hD0.imp (fun hh => hh) noDeferL_spec
 refine wp_region_two PQ_SQ (PQ_put hE0) cs pre x1 r1 x2 r2 hD hm hB ?_
 obtain ⟨h1, h2⟩ := pick_spec hl
 obtain ⟨h11, h12⟩ := pick_spec hl1
 obtain ⟨h21, h22⟩ := pick_spec hl2
 have h0 := h a { w with drawn := w.drawn + 1 } ho ⟨hi.os, hi.tape, hi.output⟩ hw
 rw [PQ_inv] at h0
 have hN : ∀ (a : Act) (w : World), SQ c (.inv (AltJ c cs l.toArray l1 l2 k) :: k) .normal a w → (rgl cs c.P (PQ c k) l.toArray (SQ c k .normal) (x1 :: r1) a w ∧ rgl cs c.P (PQ c k) l.toArray (SQ c k .normal) (x2 :: r2) a w) := by
  intro a w hx
  have hx : AltJ c cs l.toArray l1 l2 k a w := hx
  refine ⟨?_, ?_⟩
  ·have := rgp_rgl _ (fun p hp => by simpa using h12 p hp) a w hx.1
   rwa [h11] at this
  ·have := rgp_rgl _ (fun p hp => by simpa using h22 p hp) a w hx.2
   rwa [h21] at this
 have := rgp_rgl _ (fun p hp => by simpa using h2 p hp) a { w with drawn := w.drawn + 1 } (rgp_mono hN _ _ _ h0)
 rwa [h1] at this
attribute [local semireducible] X XR in
theorem X_alt {σ : Type} (EI : σ → Env) (HI : σ → Heap → Prop) {cs : CF} {ops : Array Oper} {l1 l2 : List (Nat × Oper)} (h1 : XR c cs ops l1 (.inv (MeetJ c EI HI) :: k) E hp) (h2 : XR c cs ops l2 (.inv (MeetJ c EI HI) :: k) E hp)
  (hk : ∀ s hp, HI s hp → X c k (EI s) hp) : X c (.inv (AltJ c cs ops l1 l2 k) :: k) E hp := by
 intro a w ho hi hw
 have hN : ∀ (a : Act) (w : World), SQ c (.inv (MeetJ c EI HI) :: k) .normal a w → SQ c k .normal a w := by
  rintro a w ⟨s, ho, hi, hh⟩
  exact hk s _ hh a w ho hi rfl
 have e1 := h1 a w ho hi hw
 have e2 := h2 a w ho hi hw
 rw [PQ_inv] at e1 e2
 exact ⟨rgp_mono hN _ _ _ e1, rgp_mono hN _ _ _ e2⟩
attribute [local semireducible] X XR in
theorem X_meet {σ : Type} {EI : σ → Env} {HI : σ → Heap → Prop} (s : σ) (hE : Sub (EI s) E) (h : HI s hp) : X c (.inv (MeetJ c EI HI) :: k) E hp := fun _ _ ho hi hw => ⟨s, ⟨ho.1.sub hE, ho.2⟩, hi, by rw [hw]; exact h⟩
theorem SQ_mono {k' : List SItem} (hn : ∀ a w, SQ c k' .normal a w → SQ c k .normal a w) (he : ∀ e a w, e ≠ .normal → SQ c k' e a w → SQ c k e a w) (x : Code) (a : Act) (w : World) (h : SQ c (.code x :: k') .normal a w) : SQ c (.code x :: k) .normal a w := by
 have h : x.wpIn (wdF c.r) 0 c.P (SQ c k') a w := h
 show x.wpIn (wdF c.r) 0 c.P (SQ c k) a w
 refine wpIn_mono h (fun e a w hx => ?_)
 by_cases hh : e = .normal
 ·subst hh; exact hn a w hx
 ·exact he e a w hh hx
attribute [local semireducible] X XR in
theorem X_cut {σ : Type} (EI : σ → Env) (HI : σ → Heap → Prop) {x : Code} (h : X c (.code x :: .inv (MeetJ c EI HI) :: k) E hp) (hk : ∀ s hp, HI s hp → X c k (EI s) hp) : X c (.code x :: k) E hp := by
 intro a w ho hi hw
 refine SQ_mono ?_ ?_ x a w (h a w ho hi hw)
 ·rintro a w ⟨s, ho, hi, hh⟩
  exact hk s _ hh a w ho hi rfl
 ·intro e a w hn hx
  cases e <;> first | exact hx | exact absurd rfl hn
attribute [irreducible] MeetJ AltJ
theorem SQ_goto : ∀ (k : List SItem) (l : Nat) (a : Act) (w : World), SQ c k (.goto l) a w → c.B (.goto l) a w
 | [], _, _, _, h => h
 | .code _ :: k, l, a, w, h => SQ_goto k l a w h
 | .blk _ :: k, l, a, w, h => SQ_goto k l a w h
 | .inv _ :: k, l, a, w, h => SQ_goto k l a w h
attribute [local semireducible] X in
theorem X_scope {x : Code} (hr : c.r = none) (hB : ∀ l a w, ¬ c.B (.goto l) a w) (h : X c (.code x :: k) E hp) : X c (.code (.scope x) :: k) E hp := by
 intro a w ho hi hw
 have h1 : x.wpIn (wdF c.r) 0 c.P (SQ c k) a w := h a w ho hi hw
 show (Code.scope x).wpIn (wdF c.r) 0 c.P (SQ c k) a w
 rw [hr, wdF_none, wpIn_wide] at h1 ⊢
 refine wp_scope_straight (wp_mono h1 ?_)
 intro e a w hx
 cases e with
 | goto l => exact hB l a w (SQ_goto k l a w hx)
 | _ => exact hx
end Go.Bn
end
