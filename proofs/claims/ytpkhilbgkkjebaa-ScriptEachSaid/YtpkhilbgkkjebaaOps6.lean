/- The engine, part 7: copy, a part of a value of many cells, equality of such values. -/
import Derived.Test.YtpkhilbgkkjebaaOps5
import Derived.Laws.StructEq
set_option linter.unusedVariables false
set_option linter.unusedSimpArgs false
namespace Go.Bn
open Go

section
variable {P : Program} {E : Env} {hp : Heap} {cl : Cls} {d : Option Tmp} {ty : TypeId} {pos : String} {af : Array Edge} {g : Option (Nat × Bool)}
variable {x y : Operand} {t t' : TypeId}

/-- copy into a slice of one's own, from one of its elements on. -/
theorem opl_copy {e sz b : Nat} {zs : List Value} {B : Nat} {h0 : Heap} {rs : List Res} (st : St B h0 hp rs) (j : Nat) {gb o n c n' c' m c2 : Nat} {A : Option Addr} {vs news : List Value} (hj : rs[j]? = some (row e sz (.slice (some ⟨gb, 0, none⟩) n c) vs)) (hn : Rd hp A news) (hl : news.length = m * sz)
    (h1 : ∀ u ∈ news, Value.one u = true) (hle : o + min m n' * sz ≤ vs.length) (hx : ev E x = some (.slice (some ⟨gb, o, none⟩) n' c')) (hy : ev E y = some (.slice A m c2)) (ht : sliceI P t = some (e, sz, b, zs)) {ts : Array TypeId} (hts : ts = #[t, t']) :
    OpL P ⟨d, .call ⟨.builtin .copy, #[x, y], ts⟩, ty, pos, af, g⟩ E hp (fun v hp' => v = .int .i64 ((min m n' : Nat) : Int) ∧ St B h0 hp' (rs.set j (row e sz (.slice (some ⟨gb, 0, none⟩) n c) (vs.take o ++ news.take (min m n' * sz) ++ vs.drop (o + min m n' * sz))))) := by
  obtain ⟨S, hr, hSB⟩ := st.at_ hj
  intro k a w ho hw K hK
  subst hw hts
  obtain ⟨i, z, hu, hi, hz, hsz, _, hzc⟩ := sliceI_spec ht
  subst hsz
  rcases hr with ⟨hh, _⟩ | ⟨g', nn, cap, cur, fr, hh, h2, h3, h4, h5, h6, h7, h8, hS⟩
  · cases hh
  · cases hh
    have hnl : (news.take (min m n' * i.size)).length = min m n' * i.size := by
      rw [List.length_take, hl]; exact Nat.min_eq_left (Nat.mul_le_mul_right _ (Nat.min_le_left _ _))
    have hcur : vs.length ≤ cur.size := by rw [h7, h5]; exact Nat.mul_le_mul_right _ h3
    obtain ⟨w', hst, hinv, hsz', hoth, hnew⟩ := run_storeCells (P := P) (p := gb) (o := o) (e := e) (fr := fr) (news.take (min m n' * i.size)) 0 cur w (fun u hu => h1 u (List.mem_of_mem_take hu)) h2 (by rw [hnl]; omega) h8
    have hfc : (Builtin.firstCells i.size (min m n') (.slice A m c2)).run P w = .ok (news.take (min m n' * i.size)).toArray w := by
      cases A with
      | none =>
        have hne : news = [] := by
          rcases hn with h | ⟨_, _, h, _⟩
          · exact h
          · cases h
        subst hne
        simp [Builtin.firstCells]
      | some ad =>
        refine run_firstCells_some (P := P) w i.size (min m n') ad m c2 _ hnl fun q u hu => ?_
        rw [List.getElem?_take] at hu
        split at hu
        · exact rd_cell hn rfl q u hu
        · cases hu
    have hrun : (execOp a.eval ⟨d, .call ⟨.builtin .copy, #[x, y], #[t, t']⟩, ty, pos, af, g⟩).run P w = .ok (.value (.int .i64 ((min m n' : Nat) : Int))) w' := by
      have hm : Nat.min m n' = min m n' := rfl
      simp [execOp, resolve, ho.eval hx, ho.eval hy, invoke, builtin, Builtin.copy_, run_underlying hu, sizeOf, typeInfo, hi, Builtin.lenOf, hm, hfc, hst, goInt]
    simp only [Oper.wp, hrun, Oper.upon]
    refine hK _ _ hinv ⟨rfl, st.upd hj ⟨by rw [hsz']; exact Nat.le_refl _, fun S' hS' => ?_⟩⟩
    have hSg : ∀ k, S' k ↔ k = gb := by
      rcases hS' with ⟨hh, _⟩ | ⟨g', n', cap', cur', fr', hh, _, _, _, _, _, _, _, hS''⟩
      · cases hh
      · cases hh; exact hS''
    simp only [Nat.add_zero, hnl] at hnew
    have hle2 : o + min m n' * i.size ≤ cur.size := by omega
    refine ⟨S', .inr ⟨gb, n, c, _, fr, rfl, hnew, h3, h4, ?_, ?_, ?_, ?_, hSg⟩, fun k hk => .inl hk, fun k _ hk => hoth k (fun h => hk ((hSg k).2 h))⟩
    · simp only [List.size_toArray, List.length_append, List.length_take, List.length_drop, Array.length_toList, hl]
      have : min (min m n' * i.size) (m * i.size) = min m n' * i.size := Nat.min_eq_left (Nat.mul_le_mul_right _ (Nat.min_le_left _ _))
      omega
    · rw [← h7, ← h6]
      generalize hq : n * i.size = q at *
      apply List.ext_getElem?
      intro r
      have hlen3 : vs.length = q := h7
      have e1 : (cur.toList.take o).length = o := by rw [List.length_take, Array.length_toList]; omega
      have e2 : ((cur.toList.take q).take o).length = o := by rw [List.length_take, List.length_take, Array.length_toList]; omega
      rw [List.getElem?_take]
      have eL : (cur.toList.take q).length = q := by rw [List.length_take, Array.length_toList]; omega
      rw [eL]
      simp only [List.getElem?_append, e1, e2, List.length_append, hnl, List.getElem?_take, List.getElem?_drop]
      by_cases c1 : r < o
      · simp [c1, show r < o + min m n' * i.size by omega, show r < q by omega]
      · by_cases c2 : r < o + min m n' * i.size
        · simp [c1, c2, show r < q by omega, show r - o < min m n' * i.size by omega]
        · by_cases c3 : r < q
          · simp [c1, c2, c3, show o + min m n' * i.size + (r - (o + min m n' * i.size)) = r by omega]
          · simp [c1, c2, c3, show o + min m n' * i.size + (r - (o + min m n' * i.size)) = r by omega]
    · rw [List.length_append, List.length_append, List.length_take, List.length_drop, hnl, ← h7]; omega
    · have : ((cur.toList.take o ++ news.take (min m n' * i.size) ++ cur.toList.drop (o + min m n' * i.size)).toArray).size = cur.size := by
        simp only [List.size_toArray, List.length_append, List.length_take, List.length_drop, Array.length_toList, hl]
        have : min (min m n' * i.size) (m * i.size) = min m n' * i.size := Nat.min_eq_left (Nat.mul_le_mul_right _ (Nat.min_le_left _ _))
        omega
      rw [this]; exact h8

/-- A value's field. -/
def fieldV (P : Program) (s f : Nat) (cs : List Value) : Option Value :=
  match P.underlying s with
  | some (.struct fs) => match fs[f]? with
    | some fl => match single P fl.type with
      | true => cs[fl.offset]?
      | false => match aggN P fl.type with
        | some n => some (.agg ((cs.drop fl.offset).take n).toArray)
        | none => none
    | none => none
  | _ => none
theorem run_isAgg_agg {n : Nat} (h : aggN P t = some n) (w : World) : (isAgg t).run P w = .ok true w := by
  unfold aggN at h
  split at h
  · rename_i fs hu; simp [isAgg, run_underlying hu]
  · rename_i hu; simp [isAgg, run_underlying hu]
  · cases h
theorem op_field {s f : Nat} {ca : Array Value} {v : Value} (hx : ev E x = some (.agg ca)) (hf : fieldV P s f ca.toList = some v) : Op1 cl P ⟨d, .field s x f, ty, pos, af, g⟩ E hp v :=
  .of_pure fun n a ho w' => by
    unfold fieldV at hf
    split at hf
    · rename_i fs hu
      split at hf
      · rename_i fl hfl
        split at hf
        · rename_i h1
          simp only [Array.getElem?_toList] at hf
          simp [execOp, ho.eval hx, Instr.field, run_underlying hu, hfl, part, run_isAgg_single h1, hf, asAgg]
        · split at hf
          · rename_i n hn
            cases hf
            have e : ca.extract fl.offset (fl.offset + n) = ((ca.toList.drop fl.offset).take n).toArray := by
              apply Array.ext'
              simp [List.take_drop]
            simp [execOp, ho.eval hx, Instr.field, run_underlying hu, hfl, part, run_isAgg_agg hn, run_sizeOf_agg hn, e, asAgg]
          · cases hf
      · cases hf
    · cases hf
/-- Equality of values of many cells, by a fact on their type. -/
theorem op_eqlH {xs ys : Array Value} {r : Bool} (hx : ev E x = some (.agg xs)) (hy : ev E y = some (.agg ys)) (h : ∀ w : World, (binOp .eql t (.agg xs) (.agg ys)).run P w = .ok (.bool r) w) (hg : P.eqGuardType P.depth t = false) : Op1 cl P ⟨d, .binOp .eql t x y t', ty, pos, af, g⟩ E hp (.bool r) :=
  .of_pure fun n a ho w' => by
    simp only [execOp, ho.eval hx, ho.eval hy, Sem.run_bind, run_eqGuard_agg (P := P) w' .eql t x y xs ys hg, Result.andThen_ok, h]; rfl
theorem op_neqH {xs ys : Array Value} {r : Bool} (hx : ev E x = some (.agg xs)) (hy : ev E y = some (.agg ys)) (h : ∀ w : World, (binOp .neq t (.agg xs) (.agg ys)).run P w = .ok (.bool r) w) (hg : P.eqGuardType P.depth t = false) : Op1 cl P ⟨d, .binOp .neq t x y t', ty, pos, af, g⟩ E hp (.bool r) :=
  .of_pure fun n a ho w' => by
    simp only [execOp, ho.eval hx, ho.eval hy, Sem.run_bind, run_eqGuard_agg (P := P) w' .neq t x y xs ys hg, Result.andThen_ok, h]; rfl
end
end Go.Bn
