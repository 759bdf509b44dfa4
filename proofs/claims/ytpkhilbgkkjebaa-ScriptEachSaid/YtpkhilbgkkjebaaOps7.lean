/- The engine, part 8: append of so many zero values; a part of an array's value; a string's byte. -/
import Derived.Test.YtpkhilbgkkjebaaOps6
set_option linter.unusedVariables false
set_option linter.unusedSimpArgs false
namespace Go.Bn
open Go

section
variable {P : Program} {E : Env} {hp : Heap} {cl : Cls} {d : Option Tmp} {ty : TypeId} {pos : String} {af : Array Edge} {g : Option (Nat × Bool)}
variable {x y : Operand} {t t' : TypeId}
def isIntT (P : Program) (t : TypeId) : Bool := match P.underlying t with | some (.int _) => true | _ => false

theorem zeroCells_rep (m : Nat) (z : Value) : Builtin.zeroCells #[z] m = (List.replicate m z).toArray := by
  unfold Builtin.zeroCells
  apply Array.ext
  · simp
  · intro i h1 h2
    simp [Nat.mod_one]

theorem run_appendZ {e b m : Nat} {zv : Value} {v : Value} {vs : List Value} {S : Nat → Prop} {w : World} (ht : sliceI P t = some (e, 1, b, [zv])) (hti : isIntT P t' = true) (hr : RowAt e 1 v vs w.heap S)
    (h0 : 0 < vs.length) (hm : 0 < m) (hone : Value.one zv = true) (hb0 : 0 < b) (hb : (vs.length + m) * b ≤ 140737488355328) :
    ∃ v' w', (Builtin.append_ #[t, t'] ty #[v, .int .i64 (m : Int)]).run P w = .ok v' w' ∧ Inv w w' ∧ Upd (row e 1 v vs) w.heap (row e 1 v' (vs ++ List.replicate m zv)) w'.heap := by
  obtain ⟨i, z, hu, hi, hz, hs, hbz, hzc⟩ := sliceI_spec ht
  subst hbz
  have hzc' : z.cells = #[zv] := hzc
  obtain ⟨k', hti'⟩ : ∃ k', P.underlying t' = some (.int k') := by
    unfold isIntT at hti
    split at hti
    · exact ⟨_, by assumption⟩
    · cases hti
  have hlen : vs.length + m ≤ 140737488355328 := Nat.le_trans (Nat.le_mul_of_pos_right _ hb0) hb
  have hw : IntKind.i64.wrap (m : Int) = m := IntWalk.i64_in _ (by omega)
  have hneg : ¬ ((m : Int) < 0) := by omega
  have hmb : ¬ ((m : Int) * (i.bytes : Int) > 281474976710656) := by
    have : m * i.bytes ≤ (vs.length + m) * i.bytes := Nat.mul_le_mul_right _ (by omega)
    rw [← Int.natCast_mul]; omega
  have hm0 : m ≠ 0 := by omega
  rcases hr with ⟨rfl, rfl, _⟩ | ⟨gb, n, cap, cur, fr, rfl, h2, h3, h4, h5, h6, h7, h8, hS⟩
  · simp at h0
  · have hn : vs.length = n := by rw [h7, Nat.mul_one]
    by_cases hroom : n + m ≤ cap
    · obtain ⟨w', hst, hinv, hsz', hoth, hnew⟩ := run_storeCells (P := P) (p := gb) (o := n) (e := e) (fr := fr) (List.replicate m zv) 0 cur w (fun u hu => by rw [List.eq_of_mem_replicate hu]; exact hone) h2 (by simp; omega) h8
      refine ⟨.slice (some ⟨gb, 0, none⟩) (n + m) cap, w', ?_, hinv, by rw [hsz']; exact Nat.le_refl _, fun S' hS' => ?_⟩
      · simp [Builtin.append_, run_underlying hu, run_underlying hti', sizeOf, typeInfo, hi, hs, asInt, asIntOf, hw, hneg, hmb, hroom, hm0, zeroValue, hz, hzc', zeroCells_rep, addr_add, hst]
      · have hSg : ∀ k, S' k ↔ k = gb := by
          rcases hS' with ⟨hh, _⟩ | ⟨g', n', cap', cur', fr', hh, _, _, _, _, _, _, _, hS''⟩
          · cases hh
          · cases hh; exact hS''
        simp only [Nat.add_zero] at hnew
        have hrl : (List.replicate m zv).length = m := by simp
        refine ⟨S', .inr ⟨gb, n + m, cap, _, fr, rfl, hnew, hroom, h4, ?_, ?_, ?_, ?_, hSg⟩, fun k hk => .inl hk, fun k _ hk => hoth k (fun h => hk ((hSg k).2 h))⟩
        · simp only [List.size_toArray, List.length_append, List.length_take, List.length_drop, Array.length_toList, hrl]
          omega
        · have e1 : cur.toList.take n = vs := by rw [← h6, Nat.mul_one]
          rw [e1, Nat.mul_one]
          exact List.take_left' (by rw [List.length_append, hn, hrl])
        · rw [List.length_append, hn, hrl]; omega
        · have : ((cur.toList.take n ++ List.replicate m zv ++ cur.toList.drop (n + (List.replicate m zv).length)).toArray).size = cur.size := by
            simp only [List.size_toArray, List.length_append, List.length_take, List.length_drop, Array.length_toList, hrl]
            omega
          rw [this]; exact h8
    · have holds : ∀ (j : Nat) (u : Value), vs[j]? = some u → w.cell? ((⟨gb, 0, none⟩ : Addr).add j) = some u := by
        intro j u hu'
        rw [addr_add, cell_world]
        simp only [cellH, h2, Nat.zero_add]
        rw [← h6, List.getElem?_take] at hu'
        split at hu'
        · simpa using hu'
        · cases hu'
      have hfo := run_firstCells_some (P := P) w.drew 1 n ⟨gb, 0, none⟩ n cap vs h7 (by simpa using holds)
      have hge := grownCap_ge w (n + m) cap e
      have hcm := grownCap_le_maxLen w (n + m) cap e (by simp only [maxLen]; omega)
      have h63' : ¬ (9223372036854775807 < ((n : Int) + (m : Int))) := by omega
      have hfit : Builtin.nextslicecap (n + m) cap * i.bytes ≤ 281474976710656 := growslice_fits (by omega) (by rw [← hn]; exact hb)
      have h48' : ¬ (281474976710656 < Builtin.nextslicecap (n + m) cap * i.bytes) := by omega
      refine ⟨.slice (some ⟨w.heap.size, 0, none⟩) (n + m) (grownCap w (n + m) cap e), w.drew.alloc (.cells (vs ++ List.replicate m zv ++ List.replicate (grownCap w (n + m) cap e - (n + m)) zv).toArray e), ?_, ⟨rfl, rfl, rfl⟩, ?_⟩
      · simp [Builtin.append_, run_underlying hu, run_underlying hti', sizeOf, typeInfo, hi, hs, asInt, asIntOf, hw, hneg, hmb, hroom, hm0, zeroValue, hz, hzc', zeroCells_rep, h63', h48', Question.forced, hfo, newRow, grownCap]
        congr 2
        apply Array.ext'
        simp
      · refine ⟨(ext_push _ _).size, fun S hS => ⟨fun k => k = w.heap.size, .inr ⟨w.heap.size, n + m, _, _, (0, 0), rfl, push_at _ _, hge, hcm, ?_, ?_, ?_, .inl rfl, fun _ => Iff.rfl⟩, fun k hk => .inr (by omega), fun k hk _ => (ext_push _ _).blk k hk⟩⟩
        · simp only [List.size_toArray, List.length_append, List.length_replicate, hn]; omega
        · exact List.take_left' (by simp [hn])
        · simp [hn]
/-- append(b, make([]T, m)...) -/
theorem opl_appendZ {e b m : Nat} {zv v : Value} {vs : List Value} {B : Nat} {h0 : Heap} {rs : List Res} (st : St B h0 hp rs) (j : Nat) (hj : rs[j]? = some (row e 1 v vs)) (hpos : 0 < vs.length) (hm : 0 < m) (hone : Value.one zv = true) (hb : (vs.length + m) * b ≤ 140737488355328)
    (hx : ev E x = some v) (hy : ev E y = some (.int .i64 (m : Int))) (ht : sliceI P t = some (e, 1, b, [zv])) (hti : isIntT P t' = true) (hb0 : Nat.blt 0 b = true) {ts : Array TypeId} (hts : ts = #[t, t']) :
    OpL P ⟨d, .call ⟨.builtin .append, #[x, y], ts⟩, ty, pos, af, g⟩ E hp (fun v' hp' => St B h0 hp' (rs.set j (row e 1 v' (vs ++ List.replicate m zv)))) := by
  intro n a w ho hw K hK
  subst hw hts
  obtain ⟨S, hS, _⟩ := st.at_ hj
  obtain ⟨v', w', hrun, hinv, hupd⟩ := run_appendZ (ty := ty) ht hti hS hpos hm hone (by simpa [Nat.blt_eq] using hb0) hb
  have hrun' : (execOp a.eval ⟨d, .call ⟨.builtin .append, #[x, y], #[t, t']⟩, ty, pos, af, g⟩).run P w = .ok (.value v') w' := by
    simp [execOp, resolve, ho.eval hx, ho.eval hy, invoke, builtin, hrun]
  simp only [Oper.wp, hrun', Oper.upon]
  exact hK v' w' hinv (st.upd hj hupd)

/-- An array's value whose elements have one cell. -/
def arrEl1 (P : Program) (t : TypeId) : Option Nat := match P.underlying t with
  | some (.array n e) => match single P e with
    | true => some n
    | false => none
  | _ => none
theorem op_indexV {i n : Nat} {k : IntKind} {ca : Array Value} {v : Value} (hx : ev E x = some (.agg ca)) (hy : ev E y = some (.int k (i : Int))) (ht : arrEl1 P t = some n) (hi : i < n) (hv : ca[i]? = some v) : Op1 cl P ⟨d, .index t x y, ty, pos, af, g⟩ E hp v :=
  .of_pure fun _ a ho w' => by
    unfold arrEl1 at ht
    split at ht
    · rename_i n' e hu
      split at ht
      · rename_i h1
        cases ht
        have hlt : (i : Int) < (n : Int) := by omega
        simp [execOp, ho.eval hx, ho.eval hy, Instr.index, asIntOf, run_underlying hu, hi, part, run_isAgg_single h1, run_sizeOf_single h1, hv]
      · cases ht
    · cases ht
end
section
variable {P : Program} {E : Env} {hp : Heap} {cl : Cls} {d : Option Tmp} {ty : TypeId} {pos : String} {af : Array Edge} {g : Option (Nat × Bool)}
variable {x y : Operand} {t t' : TypeId}
/-- copy into the whole of a slice of one's own. -/
theorem opl_copyW {e sz b : Nat} {zs : List Value} {B : Nat} {h0 : Heap} {rs : List Res} (st : St B h0 hp rs) (j : Nat) {n c m c2 : Nat} {A0 A : Option Addr} {vs news : List Value} (hj : rs[j]? = some (row e sz (.slice A0 n c) vs)) (hn : Rd hp A news) (hl : news.length = m * sz) (hv : vs.length = n * sz)
    (h1 : ∀ u ∈ news, Value.one u = true) (hx : ev E x = some (.slice A0 n c)) (hy : ev E y = some (.slice A m c2)) (ht : sliceI P t = some (e, sz, b, zs)) {ts : Array TypeId} (hts : ts = #[t, t']) :
    OpL P ⟨d, .call ⟨.builtin .copy, #[x, y], ts⟩, ty, pos, af, g⟩ E hp (fun v hp' => v = .int .i64 ((min m n : Nat) : Int) ∧ St B h0 hp' (rs.set j (row e sz (.slice A0 n c) (news.take (min m n * sz) ++ vs.drop (min m n * sz))))) := by
  intro k a w ho hw K hK
  obtain ⟨S, hr, _⟩ := st.at_ hj
  rcases hr with ⟨hh, hvs, _⟩ | ⟨gb, n', cap, cur, fr, hh, _⟩
  · cases hh
    subst hw hts hvs
    obtain ⟨i, z, hu, hi, hz, hsz, _, hzc⟩ := sliceI_spec ht
    have hrun : (execOp a.eval ⟨d, .call ⟨.builtin .copy, #[x, y], #[t, t']⟩, ty, pos, af, g⟩).run P w = .ok (.value (.int .i64 0)) w := by
      have hm : Nat.min m 0 = 0 := Nat.min_zero m
      have hf : (Builtin.firstCells i.size 0 (.slice A m c2)).run P w = .ok #[] w := by
        cases A <;> simp [Builtin.firstCells, loadCells, loadCellsFrom]
      simp [execOp, resolve, ho.eval hx, ho.eval hy, invoke, builtin, Builtin.copy_, run_underlying hu, sizeOf, typeInfo, hi, Builtin.lenOf, hm, hf, goInt]
    simp only [Oper.wp, hrun, Oper.upon]
    refine hK _ _ ⟨rfl, rfl, rfl⟩ ⟨by simp, ?_⟩
    have e1 : news.take (min m 0 * sz) ++ ([] : List Value).drop (min m 0 * sz) = [] := by simp
    rw [e1, List.set_getElem?_self' hj]
    exact st
  · cases hh
    have := opl_copy (P := P) (E := E) (d := d) (ty := ty) (pos := pos) (af := af) (g := g) (t' := t') st j (o := 0) (n' := n) (c' := c) hj hn hl h1 (by rw [Nat.zero_add, hv]; exact Nat.mul_le_mul_right _ (Nat.min_le_right _ _)) hx hy ht hts k a w ho hw K
    refine this fun v' w' hi h => hK v' w' hi ?_
    simpa using h
end
end Go.Bn
