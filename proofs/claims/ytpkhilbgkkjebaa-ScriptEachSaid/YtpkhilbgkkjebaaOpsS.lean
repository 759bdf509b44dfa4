/- A string's bytes put behind a row of bytes. -/
import Derived.Test.YtpkhilbgkkjebaaOps9
import Derived.Deep.AppendSrc
set_option linter.unusedVariables false
set_option linter.unusedSimpArgs false
namespace Go.Bn
open Go
theorem byteCells_str (l : List UInt8) : byteCells (str l) = l.map byteV := by
  unfold byteCells
  rw [← List.map_congr_left (f := byteV) (g := fun b : UInt8 => Value.int .u8 b.toNat) (fun _ _ => rfl)]
  congr 1
theorem isStrT_spec {P : Program} {t : TypeId} (h : isStrT P t = true) : P.underlying t = some .string := by
  unfold isStrT at h
  split at h
  · assumption
  · cases h
section
variable {P : Program} {E : Env} {hp : Heap} {cl : Cls} {d : Option Tmp} {ty : TypeId} {pos : String} {af : Array Edge} {g : Option (Nat × Bool)}
variable {x y z : Operand} {t t' : TypeId}
theorem run_append_str {e b : Nat} {tx : TypeId} {zv v : Value} {vs : List Value} {l : List UInt8} {S : Nat → Prop} {w : World} (ht : sliceI P t = some (e, 1, b, [zv])) (hk : P.underlying tx = some .string) (hr : RowAt e 1 v vs w.heap S)
    (hb0 : 0 < b) (hb : (vs.length + l.length) * b ≤ 140737488355328) :
    ∃ v' w', (Builtin.append_ #[t, tx] ty #[v, .string (str l)]).run P w = .ok v' w' ∧ Inv w w' ∧ Upd (row e 1 v vs) w.heap (row e 1 v' (vs ++ l.map byteV)) w'.heap := by
  obtain ⟨i, z, hu, hi, hz, hs, hbz, hzc⟩ := sliceI_spec ht
  subst hbz
  have hzs' : z.cells.size = 1 := by rw [hzc]; rfl
  have hlen : vs.length + l.length ≤ 140737488355328 := Nat.le_trans (Nat.le_mul_of_pos_right _ hb0) hb
  have hsrc : Src P i.size tx (.string (str l)) l.length (l.map byteV) w := by
    have := Src.ofString (P := P) w hk (str l)
    rw [byteCells_str, str_size] at this
    rw [hs]; exact this
  have h1 : ∀ u ∈ l.map byteV, Value.one u = true := by intro u hu; obtain ⟨_, _, rfl⟩ := List.mem_map.1 hu; rfl
  have fresh : ∀ (n old : Nat), vs.length = n →
      Upd (row e 1 v vs) w.heap (row e 1 (.slice (some ⟨w.heap.size, 0, none⟩) (n + l.length) (grownCap w (n + l.length) old e)) (vs ++ l.map byteV))
        (w.heap.push (.cells ((vs ++ l.map byteV).toArray ++ Builtin.zeroCells z.cells (grownCap w (n + l.length) old e - (n + l.length))) e)) := by
    intro n old hvn
    have hge := grownCap_ge w (n + l.length) old e
    have hcm := grownCap_le_maxLen w (n + l.length) old e (by simp only [maxLen]; omega)
    refine ⟨(ext_push _ _).size, fun S hS => ⟨fun k => k = w.heap.size, .inr ⟨w.heap.size, n + l.length, _, _, (0, 0), rfl, push_at _ _, hge, hcm, ?_, ?_, ?_, ?_, fun _ => Iff.rfl⟩, fun k hk => .inr (by omega), fun k hk _ => (ext_push _ _).blk k hk⟩⟩
    · simp only [Array.size_append, List.size_toArray, zeroCells_size, hzs', List.length_append, List.length_map, hvn, Nat.mul_one]
      omega
    · simp only [Array.toList_append, Nat.mul_one]
      rw [← hvn, show vs.length + l.length = (vs ++ l.map byteV).length by simp]
      exact List.take_left
    · simp [hvn]
    · exact .inl rfl
  rcases hr with ⟨rfl, rfl, hS0⟩ | ⟨g, n, cap, cur, fr, rfl, h2, h3, h4, h5, h6, h7, h8, hS⟩
  · by_cases hm : l.length = 0
    · have hne : l = [] := List.eq_nil_of_length_eq_zero hm
      subst hne
      refine ⟨.slice none 0 0, w, ?_, Inv.refl w, Nat.le_refl _, fun S hS => ⟨S, by simpa using hS, fun k hk => .inl hk, fun _ _ _ => rfl⟩⟩
      have e1 : (str []).size = 0 := rfl
      simp [Builtin.append_, run_underlying hu, run_underlying hk, sizeOf, typeInfo, hi, Builtin.lenOf, Builtin.firstCells, e1]
    · have hf := fresh 0 0 rfl
      simp only [Nat.zero_add, List.nil_append] at hf
      refine ⟨_, _, run_append_grow_src (P := P) w t tx ty e i z hu hi hz none 0 0 [] (run_firstCells_none _ _ _ _ _) (.string (str l)) l.length (l.map byteV) hsrc (by omega) (by omega) ?_, ⟨rfl, rfl, rfl⟩, by rw [Nat.zero_add, List.nil_append]; exact hf⟩
      simp only [Nat.zero_add]
      rw [nextslicecap_zero (by omega)]
      simp at hb; omega
  · simp only [Nat.mul_one] at h5 h6 h7
    by_cases hroom : n + l.length ≤ cap
    · obtain ⟨w', hst, hinv, hsz', hoth, hnew⟩ := run_storeCells (P := P) (p := g) (o := n * i.size) (e := e) (fr := fr) (l.map byteV) 0 cur w h1 h2 (by rw [hs]; simp; omega) h8
      refine ⟨.slice (some ⟨g, 0, none⟩) (n + l.length) cap, w', ?_, hinv, by rw [hsz']; exact Nat.le_refl _, fun S' hS' => ?_⟩
      · simp [Builtin.append_, run_underlying hu, run_underlying hk, sizeOf, typeInfo, hi, hsrc.len, hroom, hsrc.cells, addr_add, hst]
      · have hSg : ∀ k, S' k ↔ k = g := by
          rcases hS' with ⟨hh, _⟩ | ⟨g', n', cap', cur', fr', hh, _, _, _, _, _, _, _, hS''⟩
          · cases hh
          · cases hh; exact hS''
        simp only [Nat.add_zero, hs, Nat.mul_one] at hnew
        refine ⟨S', .inr ⟨g, n + l.length, cap, _, fr, rfl, hnew, hroom, h4, ?_, ?_, ?_, ?_, hSg⟩, fun k hk => .inl hk, fun k _ hk => hoth k (fun h => hk ((hSg k).2 h))⟩
        · simp only [List.size_toArray, List.length_append, List.length_take, List.length_drop, Array.length_toList, List.length_map]
          omega
        · rw [h6, Nat.mul_one, ← h7, show vs.length + l.length = (vs ++ l.map byteV).length by simp]
          exact List.take_left
        · simp [h7]
        · have : ((cur.toList.take n ++ l.map byteV ++ cur.toList.drop (n + (l.map byteV).length)).toArray).size = cur.size := by
            simp only [List.size_toArray, List.length_append, List.length_take, List.length_drop, Array.length_toList, List.length_map]
            omega
          rw [this]; exact h8
    · have holds : ∀ (j : Nat) (u : Value), vs[j]? = some u → w.drew.cell? ((⟨g, 0, none⟩ : Addr).add j) = some u := by
        intro j u hu'
        rw [addr_add, cell_world]
        show cellH w.heap _ = _
        simp only [cellH, h2, Nat.zero_add]
        rw [← h6, List.getElem?_take] at hu'
        split at hu'
        · simpa using hu'
        · cases hu'
      have hf := fresh n cap h7
      exact ⟨_, _, run_append_grow_src (P := P) w t tx ty e i z hu hi hz (some ⟨g, 0, none⟩) n cap vs (run_firstCells_some w.drew i.size n ⟨g, 0, none⟩ n cap vs (by rw [hs, h7, Nat.mul_one]) holds) (.string (str l)) l.length (l.map byteV) hsrc (by omega) (by omega) (growslice_fits (by omega) (by rw [← h7]; exact hb)), ⟨rfl, rfl, rfl⟩, hf⟩
theorem opl_append_str {e b : Nat} {t2 : TypeId} {zv v : Value} {vs : List Value} {l : List UInt8} {B : Nat} {h0 : Heap} {rs : List Res} (st : St B h0 hp rs) (j : Nat) (hj : rs[j]? = some (row e 1 v vs)) (hb : (vs.length + l.length) * b ≤ 140737488355328)
    (hx : ev E x = some v) (hy : ev E y = some (.string (str l))) (ht : sliceI P t = some (e, 1, b, [zv])) (hs : isStrT P t2 = true) (hb0 : Nat.blt 0 b = true) {ts : Array TypeId} (hts : ts = #[t, t2]) :
    OpL P ⟨d, .call ⟨.builtin .append, #[x, y], ts⟩, ty, pos, af, g⟩ E hp (fun v' hp' => St B h0 hp' (rs.set j (row e 1 v' (vs ++ l.map byteV)))) := by
  intro n a w ho hw K hK
  subst hw hts
  obtain ⟨S, hS, _⟩ := st.at_ hj
  obtain ⟨v', w', hrun, hinv, hupd⟩ := run_append_str (ty := ty) ht (isStrT_spec hs) hS (by simpa [Nat.blt_eq] using hb0) hb
  have hrun' : (execOp a.eval ⟨d, .call ⟨.builtin .append, #[x, y], #[t, t2]⟩, ty, pos, af, g⟩).run P w = .ok (.value v') w' := by
    simp [execOp, resolve, ho.eval hx, ho.eval hy, invoke, builtin, hrun]
  simp only [Oper.wp, hrun', Oper.upon]
  exact hK v' w' hinv (st.upd hj hupd)
end
end Go.Bn
