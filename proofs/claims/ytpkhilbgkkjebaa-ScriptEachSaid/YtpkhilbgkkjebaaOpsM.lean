/- Operations on rows of structs, and on maps from whole numbers. -/
import Derived.Test.YtpkhilbgkkjebaaRng
import Derived.Test.YtpkhilbgkkjebaaOps9
import Derived.MapKept
import Derived.Test.YtpkhilbgkkjebaaPBits
set_option linter.unusedVariables false
set_option linter.unusedSimpArgs false
namespace Go.Bn
open Go
section
variable {P : Program} {E : Env} {hp : Heap} {cl : Cls} {d : Option Tmp} {ty : TypeId} {pos : String} {af : Array Edge} {g : Option (Nat × Bool)}
variable {x y z : Operand} {t t' : TypeId}
/-- Several cells into a row of one's own. -/
theorem opl_store_rows {B : Nat} {h0 : Heap} {rs : List Res} (st : St B h0 hp rs) (j : Nat) {gb o e sz n c : Nat} {vs us : List Value} {ua : Array Value} (hj : rs[j]? = some (row e sz (.slice (some ⟨gb, 0, none⟩) n c) vs)) (hx : ev E x = some (.pointer (some ⟨gb, o, none⟩))) (hy : ev E y = some (.agg ua))
    (hu : ua.toList = us) (ht : aggN P t = some us.length) (h1 : ∀ u ∈ us, Value.one u = true) (hle : o + us.length ≤ vs.length) :
    OpL P ⟨d, .store t x y, ty, pos, af, g⟩ E hp (fun _ hp' => St B h0 hp' (rs.set j (row e sz (.slice (some ⟨gb, 0, none⟩) n c) (vs.take o ++ us ++ vs.drop (o + us.length))))) := by
  obtain rfl : ua = us.toArray := by rw [← hu]
  obtain ⟨S, hr, _⟩ := st.at_ hj
  intro m a w ho hw K hK
  subst hw
  rcases hr with ⟨hh, _⟩ | ⟨g', n', cap, cur, fr, hh, h2, h3, h4, h5, h6, h7, h8, hS⟩
  · cases hh
  · cases hh
    have hvl : vs.length ≤ cur.size := by rw [h7, h5]; exact Nat.mul_le_mul_right _ h3
    obtain ⟨w', hr, hi, hs, hother, hthere⟩ := run_storeCells (P := P) (p := gb) (o := o) us 0 cur w h1 h2 (by omega) h8
    have hrun : (execOp a.eval ⟨d, .store t x y, ty, pos, af, g⟩).run P w = .ok .skip w' := by
      simp [execOp, ho.eval hx, ho.eval hy, Instr.storeAt, Instr.sureAddr, storeVar, Value.cells, run_sizeOf_agg ht, hr]
    simp only [Oper.wp, hrun, Oper.upon]
    refine hK _ _ hi (st.upd hj ⟨by rw [hs]; exact Nat.le_refl _, fun S' hS' => ?_⟩)
    rcases hS' with ⟨hh, _⟩ | ⟨g', n', cap', cur', fr', hh, k2, k3, k4, k5, k6, k7, k8, kS⟩
    · cases hh
    · cases hh
      rw [h2] at k2
      cases k2
      refine ⟨S', .inr ⟨gb, n, c, _, fr, rfl, by rw [hthere], h3, h4, ?_, ?_, ?_, ?_, kS⟩, fun k hk => .inl hk, fun k _ hk => hother k (fun e => hk ((kS k).2 e))⟩
      · simp only [List.size_toArray, List.length_append, List.length_take, List.length_drop, Array.length_toList, Nat.add_zero]; omega
      · rw [List.append_assoc, List.append_assoc, ← h6]
        simp only [Nat.add_zero]
        rw [List.take_append, List.take_take, List.length_take, Array.length_toList, Nat.min_eq_right (by omega), Nat.min_eq_left (by omega : o ≤ cur.size), List.take_append, List.take_of_length_le (by omega : us.length ≤ n * sz - o)]
        rw [List.take_take, Nat.min_eq_left (by omega : o ≤ n * sz), List.drop_take, Nat.sub_sub]
      · simp only [List.length_append, List.length_take, List.length_drop]; omega
      · have : (List.take (o + 0) cur.toList ++ us ++ List.drop (o + 0 + us.length) cur.toList).toArray.size = cur.size := by
          simp only [List.size_toArray, List.length_append, List.length_take, List.length_drop, Array.length_toList, Nat.add_zero]; omega
        rw [this]; exact h8
theorem getElem_rep : ∀ (n : Nat) (zs : List Value) (i : Nat), i < n * zs.length → ((List.replicate n zs).flatten)[i]? = zs[i % zs.length]?
  | 0, zs, i, h => by simp at h
  | n + 1, zs, i, h => by
    rw [List.replicate_succ, List.flatten_cons]
    rcases Nat.lt_or_ge i zs.length with h1 | h1
    · rw [List.getElem?_append_left h1, Nat.mod_eq_of_lt h1]
    · rw [List.getElem?_append_right h1, getElem_rep n zs (i - zs.length) (by rw [Nat.add_mul] at h; omega)]
      rw [Nat.mod_eq_sub_mod h1]
theorem madeCells_zs (n : Nat) (zs : List Value) (hz : 0 < zs.length) : ((Array.range (n * zs.length)).map (zs.toArray[· % zs.toArray.size]!)) = ((List.replicate n zs).flatten).toArray := by
  apply Array.ext
  · simp
  · intro i h1 h2
    have h1 : i < n * zs.length := by simpa using h1
    have hm : i % zs.length < zs.length := Nat.mod_lt _ hz
    have := getElem_rep n zs i h1
    rw [List.getElem?_eq_getElem (by simpa using h1), List.getElem?_eq_getElem hm] at this
    simp only [Array.getElem_map, Array.getElem_range, List.size_toArray, List.getElem_toArray]
    rw [Option.some.inj this]
    simp [hm]
/-- make([]T, n) of structs. -/
theorem opl_mkS {e sz b : Nat} {zs : List Value} {n : Nat} {k : IntKind} (hn : n * b ≤ 140737488355328) (hx : ev E x = some (.int k (n : Int))) (ht : sliceI P t = some (e, sz, b, zs)) (hz : Nat.beq zs.length sz = true) (hz0 : Nat.blt 0 sz = true) (hb : Nat.blt 0 b = true) :
    OpL P ⟨d, .makeSlice t x x, ty, pos, af, g⟩ E hp (fun v hp' => New (row e sz v (List.replicate n zs).flatten) hp hp') := by
  intro m a w ho hw K hK
  obtain rfl := Nat.eq_of_beq_eq_true hz
  have hn1 : n ≤ 140737488355328 := Nat.le_trans (Nat.le_mul_of_pos_right _ (by simpa [Nat.blt_eq] using hb)) hn
  exact opl_make hx ht hb hn m a w ho hw K fun v' w' hi ⟨h1, h2⟩ => hK v' w' hi (by rw [h1, h2, madeCells_zs _ _ (by simpa [Nat.blt_eq] using hz0)]; exact new_row hp e _ n _ (by simp) (by simp only [maxLen]; omega))
/-- A literal of one struct, that is put behind others. -/
theorem opl_varA {e sz b : Nat} {zs us : List Value} {ua : Array Value} (hx : ev E x = some (.agg ua)) (ht : sliceI P t = some (e, sz, b, zs)) (hn : Nat.ble (1 * sz) 16777216 = true) (hs : Nat.blt 0 (1 * sz) = true) (hc : sliceCells 1 sz zs [(0, .agg ua)] = some us.toArray) :
    OpL P ⟨d, .buildSlice t 1 #[(0, x)], ty, pos, af, g⟩ E hp (fun u hp' => ∃ A, u = .slice A 1 1 ∧ Ext hp hp' ∧ Rd hp' A us) := by
  intro n a w ho hw K hK
  have hps : evP E (#[(0, x)] : Array (Nat × Operand)).toList = some [(0, .agg ua)] := by simp [evP, hx]
  exact opl_buildSlice hps ht hn hs hc n a w ho hw K fun v' w' hi ⟨h1, h2⟩ => hK v' w' hi ⟨_, h1, by rw [h2]; exact ext_push _ _, by rw [h2]; exact rd_push _ _ _⟩

theorem and1_i64 (a : Int) : bitsOp .and .i64 a 1 = a % 2 := by
  show IntKind.i64.wrap (((BitVec.ofInt 64 a &&& BitVec.ofInt 64 1).toNat : Nat) : Int) = a % 2
  have e : (BitVec.ofInt 64 a &&& BitVec.ofInt 64 1).toNat = (a % 2 ^ 64).toNat % 2 := by
    rw [BitVec.toNat_and, BitVec.toNat_ofInt, BitVec.toNat_ofInt, show (1 % (2 ^ 64 : Nat) : Int).toNat = 1 from rfl, Nat.and_one_is_mod]; rfl
  rw [e]
  have h : (((a % 2 ^ 64).toNat % 2 : Nat) : Int) = a % 2 := by omega
  rw [h]
  exact wrap_in (by simp only [inK]; omega)
/-- n&1 of any number. -/
theorem op_and1 {a : Int} (hx : ev E x = some (.int .i64 a)) (hy : ev E y = some (.int .i64 1)) : Op1 cl P ⟨d, .binOp .and t x y t', ty, pos, af, g⟩ E hp (.int .i64 (a % 2)) := by
  have := op_and (cl := cl) (P := P) (hp := hp) (d := d) (ty := ty) (pos := pos) (af := af) (g := g) (t := t) (t' := t') hx hy
  rwa [and1_i64] at this
theorem op_orS {m n : Nat} (hx : ev E x = some (.int .i64 (m : Int))) (hy : ev E y = some (.int .i64 (n : Int))) (hm : m < 2 ^ 63) (hn : n < 2 ^ 63) : Op1 cl P ⟨d, .binOp .or t x y t', ty, pos, af, g⟩ E hp (.int .i64 ((m ||| n : Nat) : Int)) := by
  have := op_or (cl := cl) (P := P) (hp := hp) (d := d) (ty := ty) (pos := pos) (af := af) (g := g) (t := t) (t' := t') hx hy
  rw [bitsOp_nat .or m n (by simp only [IntKind.bits]; omega) (by simp only [IntKind.bits]; omega)] at this
  simp only at this
  have h3 := Nat.or_lt_two_pow hm hn
  rwa [wrap_in (by simp only [inK]; omega)] at this
theorem or_even (m b : Nat) (hb : b < 2) : m * 2 ||| b = m * 2 + b := by
  have := or_put (m := 1) (x := b) (y := m) hb
  rw [Nat.pow_one, Nat.or_comm] at this
  omega
/-! Maps from whole numbers. -/
def entryOf (es : Array MapEntry) (l : List (Int × Value)) : Prop := es.toList.map (fun e => (e.key, e.val)) = l.map fun p => (Value.int .i64 p.1, p.2)
/-- A map of one's own. -/
def mapR (p : Nat) (l : List (Int × Value)) : Res := exR fun (s : Array MapEntry × Nat) => andR (entryOf s.1 l) (obj p (.map s.1 s.2))
theorem opl_mkMap : OpL P ⟨d, .makeMap t none, ty, pos, af, g⟩ E hp (fun v hp' => ∃ p, v = .map (some p) ∧ New (mapR p []) hp hp') := by
  intro n a w ho hw K hK
  subst hw
  have hrun : (execOp a.eval ⟨d, .makeMap t none, ty, pos, af, g⟩).run P w = .ok (.value (.map (some w.heap.size))) { w with heap := w.heap.push (.map #[] 0) } := by
    simp [execOp, Instr.makeMap]
  simp only [Oper.wp, hrun, Oper.upon]
  refine hK _ _ ⟨rfl, rfl, rfl⟩ ⟨_, rfl, ?_⟩
  obtain ⟨h1, S, h2, h3⟩ := new_obj (.map #[] 0) w.heap
  exact ⟨h1, S, ⟨(#[], 0), rfl, h2⟩, h3⟩
/-- Is this a map from int? -/
def mapI (P : Program) (t : TypeId) : Bool :=
  match P.underlying t with
  | some (.map k _) => match P.underlying k with
    | some (.int .i64) => true
    | _ => false
  | _ => false
theorem mapI_spec (h : mapI P t = true) : ∃ k e, P.underlying t = some (.map k e) ∧ P.underlying k = some (.int .i64) := by
  unfold mapI at h
  split at h
  · rename_i k e hu
    split at h
    · rename_i hk; exact ⟨k, e, hu, hk⟩
    · cases h
  · cases h
theorem findNow_int (k : Int) : ∀ (l : List MapEntry) (ps : List (Int × Value)) (i : Nat), l.map (fun e => (e.key, e.val)) = ps.map (fun p => (Value.int .i64 p.1, p.2)) →
    (∀ p ∈ ps, p.1 ≠ k) → Instr.findNow (.int .i64) (.int .i64 k) l i = some none
  | [], _, _, _, _ => rfl
  | e :: l, [], _, h, _ => by simp at h
  | e :: l, p :: ps, i, h, hn => by
    simp only [List.map_cons, List.cons.injEq, Prod.mk.injEq] at h
    have hp : k ≠ p.1 := fun e => hn p List.mem_cons_self e.symm
    simp only [Instr.findNow, h.1.1, Instr.sameNow, if_true]
    rw [show (k == p.1) = false by simpa using hp]
    exact findNow_int k l ps (i + 1) h.2 fun q hq => hn q (List.mem_cons_of_mem _ hq)
theorem findNow_there (k : Int) (v : Value) : ∀ (l : List MapEntry) (ps : List (Int × Value)) (i : Nat), l.map (fun e => (e.key, e.val)) = ps.map (fun p => (Value.int .i64 p.1, p.2)) →
    (k, v) ∈ ps → (∀ q ∈ ps, q.1 = k → q.2 = v) → ∃ j, Instr.findNow (.int .i64) (.int .i64 k) l i = some (some (j, v))
  | [], [], _, _, h, _ => by simp at h
  | [], _ :: _, _, h, _, _ => by simp at h
  | e :: l, [], _, h, _, _ => by simp at h
  | e :: l, p :: ps, i, h, hm, hu => by
    simp only [List.map_cons, List.cons.injEq, Prod.mk.injEq] at h
    by_cases hk : k = p.1
    · refine ⟨i, ?_⟩
      simp only [Instr.findNow, h.1.1, Instr.sameNow, if_true]
      rw [show (k == p.1) = true by simpa using hk, h.1.2, hu p List.mem_cons_self hk.symm]
    · obtain ⟨j, hj⟩ := findNow_there k v l ps (i + 1) h.2 (by
        rcases List.mem_cons.1 hm with h1 | h1
        · exact absurd (congrArg Prod.fst h1) hk
        · exact h1) fun q hq => hu q (List.mem_cons_of_mem _ hq)
      refine ⟨j, ?_⟩
      simp only [Instr.findNow, h.1.1, Instr.sameNow, if_true]
      rw [show (k == p.1) = false by simpa using hk]
      exact hj
theorem run_checkKey_int {kt : TypeId} {b : Bool} {k : Int} {w : World} (hk : P.underlying kt = some (.int .i64)) : (Instr.checkKey b 10000 kt (.int .i64 k)).run P w = .ok () w := by
  exact MapKept.run_checkKey hk (by simp [MapKept.IsKey]) b 9999
/-- m[k] = v, of a key that isn't there. -/
theorem opl_mapSet {B : Nat} {h0 : Heap} {rs : List Res} (st : St B h0 hp rs) (j : Nat) {p : Nat} {l : List (Int × Value)} {k : Int} {v : Value} (hj : rs[j]? = some (mapR p l)) (hx : ev E x = some (.map (some p))) (hy : ev E y = some (.int .i64 k)) (hz : ev E z = some v)
    (ht : mapI P t = true) (hn : ∀ q ∈ l, q.1 ≠ k) : OpL P ⟨d, .mapUpdate t x y z, ty, pos, af, g⟩ E hp (fun _ hp' => St B h0 hp' (rs.set j (mapR p (l ++ [(k, v)])))) := by
  intro n a w ho hw K hK
  subst hw
  obtain ⟨kt, e, hu, hk⟩ := mapI_spec ht
  obtain ⟨S, ⟨⟨es, clock⟩, hes, hS, hb⟩, _⟩ := st.at_ hj
  have hf := findNow_int k es.toList l 0 hes hn
  have hrun : (execOp a.eval ⟨d, .mapUpdate t x y z, ty, pos, af, g⟩).run P w = .ok .skip { w with heap := w.heap.setIfInBounds p (.map (es.push { key := .int .i64 k, val := v, born := clock }) (clock + 1)) } := by
    simp [execOp, ho.eval hx, ho.eval hy, ho.eval hz, Instr.mapUpdate, run_underlying hu, MapKept.run_getObj_map hb, run_checkKey_int hk, MapKept.run_findKey hk hf, MapKept.run_setObj_map _ hb]
  simp only [Oper.wp, hrun, Oper.upon]
  refine hK _ _ ⟨rfl, rfl, rfl⟩ (st.upd hj ⟨by simp, fun S' hS' => ?_⟩)
  obtain ⟨⟨es', clock'⟩, hes', hS1, hb1⟩ := hS'
  rw [hb] at hb1
  cases hb1
  refine ⟨S', ⟨(es.push { key := .int .i64 k, val := v, born := clock }, clock + 1), ?_, hS1, ?_⟩, fun k hk => .inl hk, fun q _ hq => ?_⟩
  · unfold entryOf at hes ⊢
    simp [hes]
  · simp [(Array.getElem?_eq_some_iff.1 hb).1]
  · exact Array.getElem?_setIfInBounds_ne (fun e => hq ((hS1 q).2 e.symm))
/-- m[k], of a key that is there. -/
theorem opl_mapGet {B : Nat} {h0 : Heap} {rs : List Res} (st : St B h0 hp rs) (j : Nat) {p : Nat} {l : List (Int × Value)} {k : Int} {v : Value} (hj : rs[j]? = some (mapR p l)) (hm : (k, v) ∈ l) (hq : ∀ q ∈ l, q.1 = k → q.2 = v) (hx : ev E x = some (.map (some p))) (hy : ev E y = some (.int .i64 k))
    (ht : mapI P t = true) : OpL P ⟨d, .lookup t x y false, ty, pos, af, g⟩ E hp (fun u hp' => u = v ∧ hp = hp') := by
  intro n a w ho hw K hK
  subst hw
  obtain ⟨kt, e, hu, hk⟩ := mapI_spec ht
  obtain ⟨S, ⟨⟨es, clock⟩, hes, hS, hb⟩, _⟩ := st.at_ hj
  obtain ⟨i, hf⟩ := findNow_there k v es.toList l 0 hes hm hq
  have hrun : (execOp a.eval ⟨d, .lookup t x y false, ty, pos, af, g⟩).run P w = .ok (.value v) w := by
    simp [execOp, ho.eval hx, ho.eval hy, Instr.lookup, run_underlying hu, MapKept.run_getObj_map hb, run_checkKey_int hk, MapKept.run_findKey hk hf]
  simp only [Oper.wp, hrun, Oper.upon]
  exact hK _ _ (Inv.refl w) ⟨rfl, rfl⟩
end
end Go.Bn
