/- Packed texts of a claim: what its theorem uses, joined. -/
import Derived.Test.YtoodeecmplpndaaPkS7x5
section
set_option linter.unusedVariables false
set_option linter.unusedSimpArgs false
namespace Go.Bn
open Go
structure MapOk (es : Array MapEntry) (f : Int → Option Value) : Prop where
  keys : ∀ e ∈ es.toList, ∃ k, e.key = .int .i64 k
  nodup : (es.toList.map (·.key)).Nodup
  all : ∀ k v, f k = some v ↔ ∃ e ∈ es.toList, e.key = .int .i64 k ∧ e.val = v
theorem MapOk.empty : MapOk #[] (fun _ => none) := ⟨by simp, by simp, by simp⟩
theorem MapOk.isKey {es : Array MapEntry} {f : Int → Option Value} (h : MapOk es f) : ∀ x ∈ es.toList, MapKept.IsKey (.int .i64) x.key := fun x hx => by
 obtain ⟨k, hk⟩ := h.keys x hx
 rw [hk]; simp [MapKept.IsKey]
def putF (f : Int → Option Value) (k : Int) (v : Value) : Int → Option Value := fun j => if j = k then some v else f j
theorem MapOk.push {es : Array MapEntry} {f : Int → Option Value} (h : MapOk es f) {k : Int} (hk : ∀ x ∈ es.toList, x.key ≠ .int .i64 k) (v : Value) (born : Nat) : MapOk (es.push { key := .int .i64 k, val := v, born }) (putF f k v) := by
 refine ⟨fun e he => ?_, ?_, fun j u => ?_⟩
 ·simp only [Array.toList_push, List.mem_append, List.mem_singleton] at he
  rcases he with he | rfl
  ·exact h.keys e he
  ·exact ⟨k, rfl⟩
 ·simp only [Array.toList_push, List.map_append, List.map_cons, List.map_nil]
  refine List.nodup_append.2 ⟨h.nodup, by simp, ?_⟩
  intro a ha b hb
  simp only [List.mem_singleton] at hb
  subst hb
  obtain ⟨x, hx, rfl⟩ := List.mem_map.1 ha
  exact hk x hx
 ·unfold putF
  simp only [Array.toList_push, List.mem_append, List.mem_singleton]
  by_cases hj : j = k
  ·subst hj
   rw [if_pos rfl]
   constructor
   ·intro e; cases e; exact ⟨_, .inr rfl, rfl, rfl⟩
   ·rintro ⟨e, he | rfl, h1, h2⟩
    ·exact absurd h1 (hk e he)
    ·rw [← h2]
  ·rw [if_neg hj, h.all]
   constructor
   ·rintro ⟨e, he, h1, h2⟩; exact ⟨e, .inl he, h1, h2⟩
   ·rintro ⟨e, he | rfl, h1, h2⟩
    ·exact ⟨e, he, h1, h2⟩
    ·simp only [Value.int.injEq, true_and] at h1; exact absurd h1.symm hj
theorem MapOk.set {es : Array MapEntry} {f : Int → Option Value} (h : MapOk es f) {k : Int} {j : Nat} {e : MapEntry} (he : es.toList[j]? = some e) (hk : e.key = .int .i64 k) (v : Value) : MapOk (es.modify j fun e => { e with key := .int .i64 k, val := v }) (putF f k v) := by
 have hkeys := MapKept.modify_keys (es := es) j (fun e => { e with key := .int .i64 k, val := v }) (fun e' he' => by
  rw [Array.getElem?_toList] at he
  rw [he] at he'; cases he'; exact hk.symm)
 have hjl : j < es.toList.length := (List.getElem?_eq_some_iff.1 he).1
 have hge : es.toList[j] = e := (List.getElem?_eq_some_iff.1 he).2
 have hm : (es.modify j fun e => { e with key := .int .i64 k, val := v }).toList = es.toList.take j ++ { e with key := .int .i64 k, val := v } :: es.toList.drop (j + 1) := by
  rw [Array.toList_modify, List.modify_eq_take_cons_drop hjl, hge]
 have hL : es.toList = es.toList.take j ++ e :: es.toList.drop (j + 1) := by
  rw [← hge, ← List.drop_eq_getElem_cons hjl, List.take_append_drop]
 have hnd := h.nodup
 have hal := h.all
 have hke := h.keys
 refine ⟨fun e' he' => ?_, by rw [hkeys]; exact h.nodup, fun i u => ?_⟩
 ·have : e'.key ∈ (es.modify j fun e => { e with key := .int .i64 k, val := v }).toList.map (·.key) := List.mem_map.2 ⟨e', he', rfl⟩
  rw [hkeys] at this
  obtain ⟨x, hx, hxe⟩ := List.mem_map.1 this
  rw [← hxe]; exact h.keys x hx
 ·rw [hm]
  rw [hL] at hnd
  have hal := hal i u
  rw [hL] at hal
  obtain ⟨T, hT⟩ : ∃ T, es.toList.take j = T := ⟨_, rfl⟩
  obtain ⟨D, hD⟩ : ∃ D, es.toList.drop (j + 1) = D := ⟨_, rfl⟩
  rw [hT, hD] at hnd hal ⊢
  simp only [List.map_append, List.map_cons] at hnd
  obtain ⟨n1, n2, n3⟩ := List.nodup_append.1 hnd
  obtain ⟨n4, n5⟩ := List.nodup_cons.1 n2
  have hTk : ∀ x ∈ T, x.key ≠ .int .i64 k := fun x hx hh => n3 x.key (List.mem_map.2 ⟨x, hx, rfl⟩) e.key List.mem_cons_self (hh.trans hk.symm)
  have hDk : ∀ x ∈ D, x.key ≠ .int .i64 k := fun x hx hh => n4 (List.mem_map.2 ⟨x, hx, hh.trans hk.symm⟩)
  simp only [List.mem_append, List.mem_cons] at hal ⊢
  unfold putF
  by_cases hi : i = k
  ·subst hi
   rw [if_pos rfl]
   constructor
   ·intro hh; cases hh; exact ⟨_, .inr (.inl rfl), rfl, rfl⟩
   ·rintro ⟨x, hx | rfl | hx, h1, h2⟩
    ·exact absurd h1 (hTk x hx)
    ·rw [← h2]
    ·exact absurd h1 (hDk x hx)
  ·rw [if_neg hi, hal]
   constructor
   ·rintro ⟨x, hx | rfl | hx, h1, h2⟩
    ·exact ⟨x, .inl hx, h1, h2⟩
    ·rw [hk] at h1; simp only [Value.int.injEq, true_and] at h1; exact absurd h1.symm hi
    ·exact ⟨x, .inr (.inr hx), h1, h2⟩
   ·rintro ⟨x, hx | rfl | hx, h1, h2⟩
    ·exact ⟨x, .inl hx, h1, h2⟩
    ·simp only [Value.int.injEq, true_and] at h1; exact absurd h1.symm hi
    ·exact ⟨x, .inr (.inr hx), h1, h2⟩
def mapF (p : Nat) (f : Int → Option Value) : Res := exR fun (s : Array MapEntry × Nat) => andR (MapOk s.1 f) (obj p (.map s.1 s.2))
section
variable {P : Program} {E : Env} {hp : Heap} {cl : Cls} {d : Option Tmp} {ty : TypeId} {pos : String} {af : Array Edge} {g : Option (Nat × Bool)}
variable {x y z : Operand} {t t' : TypeId}
theorem opl_mkMapF : OpL P ⟨d, .makeMap t none, ty, pos, af, g⟩ E hp (fun v hp' => ∃ p, v = .map (some p) ∧ New (mapF p (fun _ => none)) hp hp') := by
 intro n a w ho hw K hK
 subst hw
 have hrun : (execOp a.eval ⟨d, .makeMap t none, ty, pos, af, g⟩).run P w = .ok (.value (.map (some w.heap.size))) { w with heap := w.heap.push (.map #[] 0) } := by
  simp [execOp, Instr.makeMap]
 simp only [Oper.wp, hrun, Oper.upon]
 refine hK _ _ ⟨rfl, rfl, rfl⟩ ⟨_, rfl, ?_⟩
 obtain ⟨h1, S, h2, h3⟩ := new_obj (.map #[] 0) w.heap
 exact ⟨h1, S, ⟨(#[], 0), MapOk.empty, h2⟩, h3⟩
theorem opl_mapPut {B : Nat} {h0 : Heap} {rs : List Res} (st : St B h0 hp rs) (j : Nat) {p : Nat} {f : Int → Option Value} {k : Int} {v : Value} (hj : rs[j]? = some (mapF p f)) (hx : ev E x = some (.map (some p))) (hy : ev E y = some (.int .i64 k)) (hz : ev E z = some v)
  (ht : mapI P t = true) : OpL P ⟨d, .mapUpdate t x y z, ty, pos, af, g⟩ E hp (fun _ hp' => St B h0 hp' (rs.set j (mapF p (putF f k v)))) := by
 intro n a w ho hw K hK
 subst hw
 obtain ⟨kt, e, hu, hk⟩ := mapI_spec ht
 obtain ⟨S, ⟨⟨es, clock⟩, hes, hS, hb⟩, _⟩ := st.at_ hj
 simp only at hes hb
 have fin : ∀ es' clock', MapOk es' (putF f k v) → St B h0 (w.heap.setIfInBounds p (.map es' clock')) (rs.set j (mapF p (putF f k v))) := fun es' clock' hok => st.upd hj ⟨by simp, fun S' hS' => by
  obtain ⟨⟨es1, clock1⟩, hes', hS1, hb1⟩ := hS'
  rw [hb] at hb1
  cases hb1
  refine ⟨S', ⟨(es', clock'), hok, hS1, ?_⟩, fun k hk => .inl hk, fun q _ hq => ?_⟩
  ·simp [(Array.getElem?_eq_some_iff.1 hb).1]
  ·exact Array.getElem?_setIfInBounds_ne (fun e => hq ((hS1 q).2 e.symm))⟩
 rcases MapKept.findNow_spec (d := .int .i64) (k := .int .i64 k) (by simp [MapKept.IsKey]) es.toList 0 hes.isKey with ⟨hf, hn⟩ | ⟨i, e', hf, he', hke⟩
 ·have hrun : (execOp a.eval ⟨d, .mapUpdate t x y z, ty, pos, af, g⟩).run P w = .ok .skip { w with heap := w.heap.setIfInBounds p (.map (es.push { key := .int .i64 k, val := v, born := clock }) (clock + 1)) } := by
   simp [execOp, ho.eval hx, ho.eval hy, ho.eval hz, Instr.mapUpdate, run_underlying hu, MapKept.run_getObj_map hb, run_checkKey_int hk, MapKept.run_findKey hk hf, MapKept.run_setObj_map _ hb]
  simp only [Oper.wp, hrun, Oper.upon]
  exact hK _ _ ⟨rfl, rfl, rfl⟩ (fin _ _ (hes.push hn v clock))
 ·rw [Nat.zero_add] at hf
  have hse : es[i]? = some e' := by rw [← Array.getElem?_toList]; exact he'
  have hrun : (execOp a.eval ⟨d, .mapUpdate t x y z, ty, pos, af, g⟩).run P w = .ok .skip { w with heap := w.heap.setIfInBounds p (.map (es.modify i fun e => { e with key := .int .i64 k, val := v }) clock) } := by
   simp [execOp, ho.eval hx, ho.eval hy, ho.eval hz, Instr.mapUpdate, run_underlying hu, MapKept.run_getObj_map hb, run_checkKey_int hk, MapKept.run_findKey hk hf, MapKept.run_setObj_map _ hb, hse, hke, Instr.keyThatStays, Instr.sameBits]
  simp only [Oper.wp, hrun, Oper.upon]
  exact hK _ _ ⟨rfl, rfl, rfl⟩ (fin _ _ (hes.set he' hke v))
def mapII (P : Program) (t : TypeId) : Bool :=
  match P.underlying t with
  | some (.map k e) => (match P.underlying k with | some (.int .i64) => true | _ => false) && (match P.info? e with | some { zero := some (.int .i64 0), .. } => true | _ => false)
  | _ => false
theorem mapII_spec (h : mapII P t = true) : ∃ k e, P.underlying t = some (.map k e) ∧ P.underlying k = some (.int .i64) ∧ ∀ w : World, (zeroValue e).run P w = .ok (.int .i64 0) w := by
 unfold mapII at h
 split at h
 ·rename_i k e hu
  simp only [Bool.and_eq_true] at h
  obtain ⟨h1, h2⟩ := h
  split at h1
  ·rename_i hk
   split at h2
   ·rename_i hz; exact ⟨k, e, hu, hk, fun w => by simp [zeroValue, typeInfo, hz]⟩
   ·cases h2
  ·cases h1
 ·cases h
theorem opl_mapAsk {B : Nat} {h0 : Heap} {rs : List Res} (st : St B h0 hp rs) (j : Nat) {p : Nat} {f : Int → Option Value} {k : Int} (hj : rs[j]? = some (mapF p f)) (hx : ev E x = some (.map (some p))) (hy : ev E y = some (.int .i64 k))
  (ht : mapII P t = true) : OpL P ⟨d, .lookup t x y true, ty, pos, af, g⟩ E hp (fun u hp' => u = .tuple #[(f k).getD (.int .i64 0), .bool (f k).isSome] ∧ hp = hp') := by
 intro n a w ho hw K hK
 subst hw
 obtain ⟨kt, e, hu, hk, hz⟩ := mapII_spec ht
 obtain ⟨S, ⟨⟨es, clock⟩, hes, hS, hb⟩, _⟩ := st.at_ hj
 simp only at hes hb
 rcases MapKept.findNow_spec (d := .int .i64) (k := .int .i64 k) (by simp [MapKept.IsKey]) es.toList 0 hes.isKey with ⟨hf, hn⟩ | ⟨i, e', hf, he', hke⟩
 ·have hnone : f k = none := by
   cases hfk : f k with
   | none => rfl
   | some v =>
    obtain ⟨e, he, h1, _⟩ := (hes.all k v).1 hfk
    exact absurd h1 (hn e he)
  have hrun : (execOp a.eval ⟨d, .lookup t x y true, ty, pos, af, g⟩).run P w = .ok (.value (.tuple #[.int .i64 0, .bool false])) w := by
   simp [execOp, ho.eval hx, ho.eval hy, Instr.lookup, run_underlying hu, MapKept.run_getObj_map hb, run_checkKey_int hk, MapKept.run_findKey hk hf, hz w]
  simp only [Oper.wp, hrun, Oper.upon]
  exact hK _ _ (Inv.refl w) ⟨by rw [hnone]; rfl, rfl⟩
 ·rw [Nat.zero_add] at hf
  have hsome : f k = some e'.val := (hes.all k e'.val).2 ⟨e', List.mem_of_getElem? he', hke, rfl⟩
  have hrun : (execOp a.eval ⟨d, .lookup t x y true, ty, pos, af, g⟩).run P w = .ok (.value (.tuple #[e'.val, .bool true])) w := by
   simp [execOp, ho.eval hx, ho.eval hy, Instr.lookup, run_underlying hu, MapKept.run_getObj_map hb, run_checkKey_int hk, MapKept.run_findKey hk hf]
  simp only [Oper.wp, hrun, Oper.upon]
  exact hK _ _ (Inv.refl w) ⟨by rw [hsome]; rfl, rfl⟩
end
end Go.Bn
end

section
set_option linter.unusedVariables false
set_option linter.unusedSimpArgs false
set_option maxHeartbeats 4000000
set_option maxRecDepth 20000
namespace Go.Bn
open Go Proofs
theorem mlen_spec {n c a d : Nat} {A : Option Addr} {b : List UInt8} {h0 : Heap} (hr : Rd h0 A (b.map byteV)) (hl : b.length = n) (hn : n ≤ 1099511627776) (ha : a ≤ 1099511627776) (hd : d ≤ 1099511627776) :
  Ret Try.prog 101 [.slice A n c, nV a, nV d] h0 fun v h' => v = nV (lenM b a d) ∧ h0 = h' := by
 have hout : (n ≤ a ∨ d < 1 ∨ 32768 < d ∨ a < d) → lenM b a d = 0 := fun h => by
  by_cases h0 : lenM b a d = 0
  ·exact h0
  ·have := lenM_in h0; omega
 refine ret_of_X Try.func101 rfl rfl fun w0 hw0 => ?_
 simp only [argE, Nat.zero_add, Nat.reduceAdd]
 refine X_seq (X_reg (XA rfl rfl rfl (XR_nil (X_seq (X_seq (X_reg (XV rfl rfl rfl ?_)))))))
 refine XR_a (op_lss rfl rfl) rfl rfl ?_
 refine XV rfl rfl rfl ?_
 refine XR_if 10 rfl (fun h => ?_) (fun h => ?_)
 ·exact absurd h (by omega)
 ·refine XV rfl rfl rfl (XV rfl rfl rfl ?_)
  refine XR_a (op_len rfl rfl rfl) rfl rfl ?_
  refine XR_a (op_geq rfl rfl) rfl rfl ?_
  refine XR_a (op_pick_f rfl rfl) rfl rfl (XV rfl rfl rfl ?_)
  refine XR_if 16 rfl (fun h => ?_) (fun h => ?_)
  ·have hz : lenM b a d = 0 := hout (by omega)
   refine XR_no rfl rfl (XR_no rfl rfl (XR_a (op_pick_t rfl rfl) rfl rfl (XV rfl rfl rfl (XR_no rfl rfl (XR_no rfl rfl (XR_a (op_pick_t rfl rfl) rfl rfl (XV rfl rfl rfl (XR_no rfl rfl (XR_no rfl rfl ?_)))))))))
   refine XR_no rfl rfl (XR_a (op_pick_t rfl rfl) rfl rfl (XR_nil (X_then rfl (X_seq (X_reg (XA rfl rfl rfl (XR_nil ?_)))))))
   refine X_ret (.cons (.tmp rfl) .nil) ?_
   rw [hz]
   exact ⟨rfl, rfl⟩
  ·refine XV rfl rfl rfl ?_
   refine XR_a (op_lss rfl rfl) rfl rfl ?_
   refine XR_a (op_pick_f rfl rfl) rfl rfl (XV rfl rfl rfl ?_)
   refine XR_if 20 rfl (fun h => ?_) (fun h => ?_)
   ·have hz : lenM b a d = 0 := hout (by omega)
    refine XR_no rfl rfl (XR_no rfl rfl (XR_a (op_pick_t rfl rfl) rfl rfl (XV rfl rfl rfl (XR_no rfl rfl (XR_no rfl rfl (XR_no rfl rfl (XR_a (op_pick_t rfl rfl) rfl rfl (XR_nil (X_then rfl ?_)))))))))
    refine X_seq (X_reg (XA rfl rfl rfl (XR_nil ?_)))
    refine X_ret (.cons (.tmp rfl) .nil) ?_
    rw [hz]
    exact ⟨rfl, rfl⟩
   ·refine XV rfl rfl rfl ?_
    refine XR_a (op_gtr rfl rfl) rfl rfl ?_
    refine XR_a (op_pick_f rfl rfl) rfl rfl (XV rfl rfl rfl ?_)
    refine XR_if 24 rfl (fun h => ?_) (fun h => ?_)
    ·have hz : lenM b a d = 0 := hout (by omega)
     refine XR_no rfl rfl (XR_no rfl rfl (XR_no rfl rfl (XR_a (op_pick_t rfl rfl) rfl rfl (XR_nil (X_then rfl (X_seq (X_reg (XA rfl rfl rfl (XR_nil ?_)))))))))
     refine X_ret (.cons (.tmp rfl) .nil) ?_
     rw [hz]
     exact ⟨rfl, rfl⟩
    ·refine XV rfl rfl rfl (XV rfl rfl rfl ?_)
     refine XR_a (op_gtr rfl rfl) rfl rfl ?_
     refine XR_a (op_pick_f rfl rfl) rfl rfl (XR_nil ?_)
     refine X_if rfl (fun h => ?_) (fun h => ?_)
     ·have hz : lenM b a d = 0 := hout (by omega)
      refine X_seq (X_reg (XA rfl rfl rfl (XR_nil ?_)))
      refine X_ret (.cons (.tmp rfl) .nil) ?_
      rw [hz]
      exact ⟨rfl, rfl⟩
     ·refine X_skip (X_seq (X_reg (XA rfl rfl rfl (XR_nil (X_seq (X_block ?_))))))
      obtain ⟨g, o, rfl, hc⟩ := hr.at_ (by rw [List.length_map]; omega)
      have hci : ∀ i (hi : i < b.length), cellH h0 ⟨g, o + i, none⟩ = some (byteV b[i]) := fun i hi => hc i _ (by rw [List.getElem?_map, List.getElem?_eq_getElem hi]; rfl)
      have hL : lenM b a d = min 258 (likeM (b.drop a) (b.drop (a - d))) := by unfold lenM; rw [if_neg (by omega)]
      refine X_loop (fun k => 258 - k) (fun k => [(0, .slice (some ⟨g, o, none⟩) n c), (1, nV a), (2, nV d), (7, nV k)])
       (fun (k : Nat) hp => h0 = hp ∧ k ≤ 258 ∧ a + k ≤ n ∧ k + likeM (b.drop (a + k)) (b.drop (a - d + k)) = likeM (b.drop a) (b.drop (a - d)))
       0 (.cons rfl (.cons rfl (.cons rfl (.cons rfl (.nil _))))) ⟨rfl, by omega, by omega, by rw [Nat.zero_add, Nat.add_zero, Nat.add_zero]⟩ ?_
      rintro k hp ⟨rfl, hk, hak, hlk⟩
      refine X_seq (X_seq ?_)
      refine X_draw byKind (by kernel_rfl) (by kernel_rfl) ?_
      refine XV rfl rfl rfl ?_
      refine XR_a (op_lss rfl rfl) rfl rfl ?_
      refine XV rfl rfl rfl ?_
      refine XR_if 31 rfl (fun h => ?_) (fun h => ?_)
      ·refine XV rfl rfl rfl (XV rfl rfl rfl ?_)
       first | refine XR_a (op_addN rfl rfl (by simp only [inK]; omega)) rfl rfl ?_ | refine XR_a (op_addI rfl rfl (by simp only [inK]; omega)) rfl rfl ?_ | refine XR_a (op_add rfl rfl) rfl rfl ?_
       refine XV rfl rfl rfl ?_
       refine XR_a (op_len rfl rfl rfl) rfl rfl ?_
       refine XR_a (op_lss rfl rfl) rfl rfl ?_
       refine XR_a (op_pick_t rfl rfl) rfl rfl (XV rfl rfl rfl ?_)
       refine XR_if 39 rfl (fun h => ?_) (fun h => ?_)
       ·have hst := likeM_at (b := b) (i := a + k) (j := a - d + k) (by omega) (by omega)
        refine XV rfl rfl rfl (XV rfl rfl rfl (XV rfl rfl rfl ?_))
        first | refine XR_a (op_addN rfl rfl (by simp only [inK]; omega)) rfl rfl ?_ | refine XR_a (op_addI rfl rfl (by simp only [inK]; omega)) rfl rfl ?_ | refine XR_a (op_add rfl rfl) rfl rfl ?_
        refine XR_a (op_index1 (i := a + k) rfl rfl rfl (by omega)) rfl rfl ?_
        refine XR_a (op_ld (hci (a + k) (by omega)) rfl rfl rfl) rfl rfl ?_
        refine XV rfl rfl rfl (XV rfl rfl rfl (XV rfl rfl rfl ?_))
        first | refine XR_a (op_addN rfl rfl (by simp only [inK]; omega)) rfl rfl ?_ | refine XR_a (op_addI rfl rfl (by simp only [inK]; omega)) rfl rfl ?_ | refine XR_a (op_add rfl rfl) rfl rfl ?_
        refine XV rfl rfl rfl ?_
        refine XR_a (op_subN rfl rfl (by omega) (by simp only [inK]; omega)) rfl rfl ?_
        refine XR_a (op_index1 (i := a + k - d) rfl rfl rfl (by omega)) rfl rfl ?_
        refine XR_a (op_ld (hci (a + k - d) (by omega)) rfl rfl rfl) rfl rfl ?_
        refine XR_a (op_eql rfl rfl) rfl rfl ?_
        refine XR_a (op_pick_t rfl rfl) rfl rfl (XR_nil ?_)
        refine X_if rfl (fun h => ?_) (fun h => ?_)
        ·refine X_skip (X_block (X_reg (XV rfl rfl rfl ?_)))
         first | refine XR_a (op_addN (n := 1) rfl rfl (by simp only [inK]; omega)) rfl rfl ?_ | refine XR_a (op_addI rfl rfl (by simp only [inK]; omega)) rfl rfl ?_ | refine XR_a (op_add rfl rfl) rfl rfl ?_
         refine XA rfl rfl rfl (XR_nil (X_blk ?_))
         exact X_again (k + 1) (.cons rfl (.cons rfl (.cons rfl (.cons rfl (.nil _))))) ⟨rfl, by omega, by omega, by
          have he : b[a + k]'(by omega) = b[a - d + k]'(by omega) := by
           have e1 : a + k - d = a - d + k := by omega
           simp only [e1] at h
           exact UInt8.toNat_inj.1 (by omega)
          rw [if_pos he] at hst
          rw [show a + (k + 1) = a + k + 1 by omega, show a - d + (k + 1) = a - d + k + 1 by omega]; omega⟩ (by omega)
        ·refine X_exit rfl (X_seq (X_reg (XV rfl rfl rfl (XA rfl rfl rfl (XR_nil ?_)))))
         refine X_ret (.cons (.tmp rfl) .nil) ?_
         have he : ¬ b[a + k]'(by omega) = b[a - d + k]'(by omega) := fun hh => by
          have e1 : a + k - d = a - d + k := by omega
          simp only [e1] at h
          rw [hh] at h
          exact h rfl
         rw [if_neg he] at hst
         rw [hL, show min 258 (likeM (b.drop a) (b.drop (a - d))) = k by omega]
         exact ⟨rfl, rfl⟩
       ·refine XR_no rfl rfl (XR_no rfl rfl (XR_no rfl rfl (XR_no rfl rfl (XR_no rfl rfl (XR_no rfl rfl (XR_no rfl rfl (XR_no rfl rfl (XR_no rfl rfl (XR_no rfl rfl ?_)))))))))
        refine XR_no rfl rfl (XR_no rfl rfl (XR_no rfl rfl (XR_no rfl rfl (XR_no rfl rfl (XR_a (op_pick_f rfl rfl) rfl rfl (XR_nil (X_else rfl (X_exit rfl (X_seq ?_)))))))))
        refine X_reg (XV rfl rfl rfl (XA rfl rfl rfl (XR_nil ?_)))
        refine X_ret (.cons (.tmp rfl) .nil) ?_
        rw [likeM_out (by omega)] at hlk
        rw [hL, show min 258 (likeM (b.drop a) (b.drop (a - d))) = k by omega]
        exact ⟨rfl, rfl⟩
      ·refine XR_no rfl rfl (XR_no rfl rfl (XR_no rfl rfl (XR_no rfl rfl (XR_no rfl rfl (XR_no rfl rfl (XR_a (op_pick_f rfl rfl) rfl rfl (XV rfl rfl rfl (XR_no rfl rfl (XR_no rfl rfl ?_)))))))))
       refine XR_no rfl rfl (XR_no rfl rfl (XR_no rfl rfl (XR_no rfl rfl (XR_no rfl rfl (XR_no rfl rfl (XR_no rfl rfl (XR_no rfl rfl (XR_no rfl rfl (XR_no rfl rfl ?_)))))))))
       refine XR_no rfl rfl (XR_no rfl rfl (XR_no rfl rfl (XR_a (op_pick_f rfl rfl) rfl rfl (XR_nil (X_else rfl (X_exit rfl (X_seq (X_reg (XV rfl rfl rfl ?_)))))))))
       refine XA rfl rfl rfl (XR_nil ?_)
       refine X_ret (.cons (.tmp rfl) .nil) ?_
       rw [hL, show min 258 (likeM (b.drop a) (b.drop (a - d))) = k by omega]
       exact ⟨rfl, rfl⟩
end Go.Bn
end

section
set_option linter.unusedVariables false
set_option linter.unusedSimpArgs false
set_option maxHeartbeats 4000000
set_option maxRecDepth 20000
namespace Go.Bn
open Go Proofs
theorem shl_or (x y k : Nat) (h : x < 2 ^ k) : x ||| y * 2 ^ k = x + y * 2 ^ k := by
 have := Nat.two_pow_add_eq_or_of_lt h y
 rw [Nat.or_comm, Nat.mul_comm, ← this]; omega
theorem mkey_spec {n c a : Nat} {A : Option Addr} {b : List UInt8} {h0 : Heap} (hr : Rd h0 A (b.map byteV)) (hl : b.length = n) (hn : n ≤ 1099511627776) (ha : a + 3 ≤ n) :
  Ret Try.prog 136 [.slice A n c, nV a] h0 fun v h' => v = nV (keyM b a) ∧ h0 = h' := by
 obtain ⟨g, o, rfl, hc⟩ := hr.at_ (by rw [List.length_map]; omega)
 have hci : ∀ i (hi : i < b.length), cellH h0 ⟨g, o + i, none⟩ = some (byteV b[i]) := fun i hi => hc i _ (by rw [List.getElem?_map, List.getElem?_eq_getElem hi]; rfl)
 have l1 := (b[a]'(by omega)).toNat_lt
 have l2 := (b[a + 1]'(by omega)).toNat_lt
 have l3 := (b[a + 2]'(by omega)).toNat_lt
 refine ret_of_X Try.func136 rfl rfl fun w0 hw0 => ?_
 simp only [argE, Nat.zero_add, Nat.reduceAdd]
 refine X_seq (X_reg (XA rfl rfl rfl (XR_nil (X_seq ?_))))
 refine X_draw byKind (by kernel_rfl) (by kernel_rfl) ?_
 refine XV rfl rfl rfl (XV rfl rfl rfl ?_)
 refine XR_a (op_index1 (i := a) rfl rfl rfl (by omega)) rfl rfl ?_
 refine XR_a (op_ld (hci a (by omega)) rfl rfl rfl) rfl rfl ?_
 first | refine XR_a (op_convI rfl rfl (by simp only [inK]; omega)) rfl rfl ?_ | refine XR_a (op_conv rfl rfl) rfl rfl ?_
 refine XR_as (nV (b[a]'(by omega)).toNat) rfl ?_
 refine XV rfl rfl rfl (XV rfl rfl rfl ?_)
 first | refine XR_a (op_addN (n := 1) rfl rfl (by simp only [inK]; omega)) rfl rfl ?_ | refine XR_a (op_addI rfl rfl (by simp only [inK]; omega)) rfl rfl ?_ | refine XR_a (op_add rfl rfl) rfl rfl ?_
 refine XR_a (op_index1 (i := a + 1) rfl rfl rfl (by omega)) rfl rfl ?_
 refine XR_a (op_ld (hci (a + 1) (by omega)) rfl rfl rfl) rfl rfl ?_
 first | refine XR_a (op_convI rfl rfl (by simp only [inK]; omega)) rfl rfl ?_ | refine XR_a (op_conv rfl rfl) rfl rfl ?_
 refine XR_as (nV (b[a + 1]'(by omega)).toNat) rfl ?_
 first | refine XR_a (op_shlC 8 rfl rfl (by decide) (by simp only [inK]; omega)) rfl rfl ?_ | refine XR_a (op_shlI 8 rfl rfl (by decide) (by simp only [inK]; omega)) rfl rfl ?_ | refine XR_a (op_shlN 8 rfl rfl (by decide)) rfl rfl ?_
 refine XR_a (op_orS rfl rfl (by omega) (by omega)) rfl rfl ?_
 rw [shl_or _ _ 8 (by omega)]
 refine XV rfl rfl rfl (XV rfl rfl rfl ?_)
 first | refine XR_a (op_addN (n := 2) rfl rfl (by simp only [inK]; omega)) rfl rfl ?_ | refine XR_a (op_addI rfl rfl (by simp only [inK]; omega)) rfl rfl ?_ | refine XR_a (op_add rfl rfl) rfl rfl ?_
 refine XR_a (op_index1 (i := a + 2) rfl rfl rfl (by omega)) rfl rfl ?_
 refine XR_a (op_ld (hci (a + 2) (by omega)) rfl rfl rfl) rfl rfl ?_
 first | refine XR_a (op_convI rfl rfl (by simp only [inK]; omega)) rfl rfl ?_ | refine XR_a (op_conv rfl rfl) rfl rfl ?_
 refine XR_as (nV (b[a + 2]'(by omega)).toNat) rfl ?_
 first | refine XR_a (op_shlC 16 rfl rfl (by decide) (by simp only [inK]; omega)) rfl rfl ?_ | refine XR_a (op_shlI 16 rfl rfl (by decide) (by simp only [inK]; omega)) rfl rfl ?_ | refine XR_a (op_shlN 16 rfl rfl (by decide)) rfl rfl ?_
 refine XR_a (op_orS rfl rfl (by omega) (by omega)) rfl rfl ?_
 rw [shl_or _ _ 16 (by omega)]
 refine XA rfl rfl rfl (XR_nil ?_)
 refine X_ret (.cons (.tmp rfl) .nil) ?_
 refine ⟨congrArg (Value.int .i64) (congrArg Nat.cast ?_), rfl⟩
 unfold keyM
 rw [getD_at (by omega), getD_at (by omega), getD_at (by omega)]
 omega
def lastF (b : List UInt8) (u : Nat) : Int → Option Value := fun k => if 0 ≤ k then (lastM b u k.toNat).map nV else none
theorem lastF_at (b : List UInt8) (u k : Nat) : lastF b u (k : Int) = (lastM b u k).map nV := by unfold lastF; rw [if_pos (by omega)]; rfl
theorem lastF_zero (b : List UInt8) : lastF b 0 = fun _ => none := by
 funext k; unfold lastF; split <;> rfl
theorem lastF_succ (b : List UInt8) (u : Nat) : lastF b (u + 1) = putF (lastF b u) (keyM b u : Nat) (nV u) := by
 funext k
 unfold putF
 dsimp only [lastF]
 by_cases hk : 0 ≤ k
 ·rw [if_pos hk, if_pos hk, lastM_succ]
  by_cases h : keyM b u = k.toNat
  ·rw [if_pos h, if_pos (by omega)]; rfl
  ·rw [if_neg h, if_neg (by omega)]
 ·rw [if_neg hk, if_neg hk, if_neg (by omega)]
def prevs (b : List UInt8) (u : Nat) : List Int := (List.range u).map fun i => optI (prevM b i)
theorem prevs_length (b : List UInt8) (u : Nat) : (prevs b u).length = u := by simp [prevs]
theorem prevs_succ (b : List UInt8) (u : Nat) : prevs b (u + 1) = prevs b u ++ [optI (prevM b u)] := by simp [prevs, List.range_succ]
theorem prevs_get {b : List UInt8} {u i : Nat} (h : i < u) : (prevs b u)[i]? = some (optI (prevM b i)) := by simp [prevs, h]
def finR (p : Nat) (A : Option Addr) (n c u : Nat) (b : List UInt8) : Res :=
  exR fun (x : Value × Nat) => starR (starR (row 3 1 x.1 ((prevs b u).map iV)) (mapF x.2 (lastF b u))) (pt p 147 [.slice A n c, .map (some x.2), x.1, nV u])
theorem St.fin {B : Nat} {h0 hp : Heap} {p n c u : Nat} {A : Option Addr} {b : List UInt8} {F : List Res} : St B h0 hp (finR p A n c u b :: F) ↔ ∃ v m, St B h0 hp (Bn.row 3 1 v ((prevs b u).map iV) :: mapF m (lastF b u) :: pt p 147 [.slice A n c, .map (some m), v, nV u] :: F) :=
 ⟨fun st => by
  obtain ⟨⟨v, m⟩, st⟩ := St.ex.1 st
  exact ⟨v, m, St.star.1 (St.star.1 st)⟩, fun ⟨v, m, st⟩ => St.ex.2 ⟨(v, m), St.star.2 (St.star.2 st)⟩⟩
theorem mnew_spec {n c : Nat} {A : Option Addr} {b : List UInt8} {h0 : Heap} :
  Ret Try.prog 58 [.slice A n c] h0 fun v h' => ∃ p, v = .pointer (some ⟨p, 0, none⟩) ∧ St h0.size h0 h' [finR p A n c 0 b] := by
 refine ret_of_X Try.func58 rfl rfl fun w0 hw0 => ?_
 simp only [argE, Nat.zero_add, Nat.reduceAdd]
 have st := St.start h0
 refine X_seq (X_reg (XA rfl rfl rfl (XR_nil (X_seq (X_reg (XV rfl rfl rfl ?_))))))
 refine XR_wa opl_mkMapF rfl rfl rfl ?_
 rintro _ hp ⟨m, rfl, hnew⟩
 replace st := st.new hnew
 refine XR_a (op_build (ps := [(0, .slice A n c), (1, .map (some m))]) (cs := #[.slice A n c, .map (some m), .slice none 0 0, nV 0]) rfl rfl) rfl rfl ?_
 refine XR_wa (opl_bx (cs := [.slice A n c, .map (some m), .slice none 0 0, nV 0]) rfl rfl) rfl rfl rfl ?_
 rintro _ hp ⟨p, rfl, hnew⟩
 replace st := st.new hnew
 refine XA rfl rfl rfl (XR_nil ?_)
 refine X_ret (.cons (.tmp rfl) .nil) ?_
 refine ⟨_, rfl, St.fin.2 ⟨.slice none 0 0, m, ?_⟩⟩
 rw [lastF_zero]
 exact (st.nilrow 3 1).re 3 [0, 2, 1] (by decide)
theorem mwhole_spec {B p n c u a : Nat} {A : Option Addr} {b : List UInt8} {F : List Res} {hb h0 : Heap} (st0 : St B hb h0 (finR p A n c u b :: F)) (hn : n ≤ 1099511627776) :
  Ret Try.prog 127 [.pointer (some ⟨p, 0, none⟩), nV a] h0 fun v h' => v = .bool (decide (a + 3 ≤ n)) ∧ h0 = h' := by
 obtain ⟨v, m, st⟩ := St.fin.1 st0
 refine ret_of_X Try.func127 rfl rfl fun w0 hw0 => ?_
 simp only [argE, Nat.zero_add, Nat.reduceAdd]
 refine X_seq (X_reg (XA rfl rfl rfl (XR_nil (X_seq (X_reg (XV rfl rfl rfl ?_))))))
 refine XR_a (op_geq rfl rfl) rfl rfl ?_
 refine XR_as (.bool true) (congrArg Value.bool (decide_eq_true (by omega))) ?_
 refine XV rfl rfl rfl (XV rfl rfl rfl (XV rfl rfl rfl (XR_a (op_nilCheck rfl) rfl rfl ?_)))
 first | refine XR_a (op_field0 rfl rfl) rfl rfl ?_ | refine XR_a (op_fieldn rfl rfl) rfl rfl ?_
 refine XR_a (op_ld (st.cell 2 (i := 0) rfl rfl) rfl rfl rfl) rfl rfl ?_
 refine XR_a (op_len rfl rfl rfl) rfl rfl ?_
 refine XR_a (op_subI rfl rfl (by simp only [inK]; omega)) rfl rfl ?_
 refine XR_a (op_leq rfl rfl) rfl rfl ?_
 refine XR_as (.bool (decide (a + 3 ≤ n))) (congrArg Value.bool (decide_eq_decide.2 ⟨fun _ => by omega, fun _ => by omega⟩)) ?_
 refine XR_a (op_pick_t rfl rfl) rfl rfl (XA rfl rfl rfl (XR_nil ?_))
 refine X_ret (.cons (.tmp rfl) .nil) ?_
 exact ⟨rfl, rfl⟩
theorem mlearn_spec {B p n c u a : Nat} {A : Option Addr} {b : List UInt8} {F : List Res} {h0 : Heap} (st0 : St B h0 h0 (finR p A n c u b :: F)) (hrB : ∀ h', Low B h0 h' → Rd h' A (b.map byteV)) (hl : b.length = n) (hn : n ≤ 1099511627776) (ha : a + 3 ≤ n) (hu : u ≤ n) :
  Ret Try.prog 128 [.pointer (some ⟨p, 0, none⟩), nV a] h0 fun _ h' => St B h0 h' (finR p A n c (max u (a + 1)) b :: F) := by
 refine ret_of_X Try.func128 rfl rfl fun w0 hw0 => ?_
 simp only [argE, Nat.zero_add, Nat.reduceAdd]
 refine X_block ?_
 refine X_loop (fun s => a + 1 - s) (fun s => [(0, .pointer (some ⟨p, 0, none⟩)), (1, nV a)])
  (fun (s : Nat) hp => s ≤ max u (a + 1) ∧ u ≤ s ∧ St B h0 hp (finR p A n c s b :: F))
  u (.cons rfl (.cons rfl (.nil _))) ⟨by omega, Nat.le_refl _, st0⟩ ?_
 clear st0
 rintro s hp ⟨hs1, hs2, st⟩
 obtain ⟨v, m, st⟩ := St.fin.1 st
 obtain ⟨Ap, np, cp, rfl, hlp, _⟩ := st.row 0 rfl
 rw [List.length_map, prevs_length, Nat.mul_one] at hlp
 refine X_seq (X_seq (X_reg (XV rfl rfl rfl (XR_a (op_nilCheck rfl) rfl rfl ?_))))
 first | refine XR_a (op_field0 rfl rfl) rfl rfl ?_ | refine XR_a (op_fieldn rfl rfl) rfl rfl ?_
 refine XR_a (op_ld (st.cell 2 (i := 3) rfl rfl) rfl rfl rfl) rfl rfl ?_
 refine XV rfl rfl rfl ?_
 refine XR_a (op_leq rfl rfl) rfl rfl ?_
 refine XR_nil ?_
 refine X_if rfl (fun h => ?_) (fun h => ?_)
 ·refine X_skip (X_seq (X_block (X_seq ?_)))
  refine X_draw (butAt [(8, .grow)]) (by kernel_rfl) (by kernel_rfl) ?_
  refine XV rfl rfl rfl (XR_a (op_nilCheck rfl) rfl rfl ?_)
  first | refine XR_a (op_field0 rfl rfl) rfl rfl ?_ | refine XR_a (op_fieldn rfl rfl) rfl rfl ?_
  refine XR_a (op_ld (st.cell 2 (i := 0) rfl rfl) rfl rfl rfl) rfl rfl ?_
  refine XV rfl rfl rfl (XR_a (op_nilCheck rfl) rfl rfl ?_)
  first | refine XR_a (op_field0 rfl rfl) rfl rfl ?_ | refine XR_a (op_fieldn rfl rfl) rfl rfl ?_
  refine XR_a (op_ld (st.cell 2 (i := 3) rfl rfl) rfl rfl rfl) rfl rfl ?_
  refine XR_ga (opl_call (mkey_spec (hrB _ st.low) hl hn (by omega)) rfl (by kernel_rfl)) rfl rfl rfl (fun _ _ h => h.2 ▸ Low.refl _ _) ?_
  rintro _ _ ⟨rfl, rfl⟩
  refine XA rfl rfl rfl (XR_nil (X_seq (X_reg (XV rfl rfl rfl (XR_a (op_nilCheck rfl) rfl rfl ?_)))))
  first | refine XR_a (op_field0 rfl rfl) rfl rfl ?_ | refine XR_a (op_fieldn rfl rfl) rfl rfl ?_
  refine XR_a (op_ld (st.cell 2 (i := 1) rfl rfl) rfl rfl rfl) rfl rfl ?_
  refine XV rfl rfl rfl ?_
  refine XR_wa (opl_mapAsk st 1 rfl rfl rfl (by kernel_rfl)) rfl rfl rfl ?_
  rintro _ _ ⟨rfl, rfl⟩
  have hlf : lastM b s (keyM b s) = prevM b s := rfl
  rw [lastF_at, hlf]
  obtain ⟨q, hq⟩ : ∃ q, prevM b s = q := ⟨_, rfl⟩
  rw [hq]
  by_cases hq1 : q.isSome = true
  ·obtain ⟨q', rfl⟩ := Option.isSome_iff_exists.1 hq1
   refine XR_as (.tuple #[nV q', .bool true]) rfl ?_
   refine XV rfl rfl rfl (XR_a (op_extract rfl rfl) rfl rfl (XR_a (op_extract rfl rfl) rfl rfl (XA rfl rfl rfl (XA rfl rfl rfl (XR_nil (X_seq (X_seq (X_reg (XV rfl rfl rfl ?_)))))))))
   refine XR_a (op_not rfl) rfl rfl ?_
   refine XR_as (.bool false) rfl ?_
   refine XR_nil (X_else rfl (X_skip (X_seq (X_reg (XV rfl rfl rfl (XV rfl rfl rfl (XR_a (op_nilCheck rfl) rfl rfl ?_)))))))
   first | refine XR_a (op_field0 rfl rfl) rfl rfl ?_ | refine XR_a (op_fieldn rfl rfl) rfl rfl ?_
   refine XR_a (op_ld (st.cell 2 (i := 2) rfl rfl) rfl rfl rfl) rfl rfl ?_
   refine XV rfl rfl rfl ?_
   refine XR_wa (opl_var1 (v := iV (optI (some q'))) rfl rfl rfl) rfl rfl rfl ?_
   rintro _ hp ⟨Aq, rfl, hxq, hrq⟩
   replace st := st.ext hxq
   refine XR_wa (opl_append st 0 rfl (hrq) (rfl) (one_iV [optI _]) (by simp [prevs_length]; omega) rfl rfl rfl rfl rfl rfl rfl) rfl rfl rfl fun v hp st => ?_
   simp only [List.set_cons_zero, List.set_cons_succ] at st
   rw [← hq, show (prevs b s).map iV ++ [iV (optI (prevM b s))] = (prevs b (s + 1)).map iV by rw [prevs_succ, List.map_append]; rfl] at st
   obtain ⟨A7, n7, c7, rfl, _⟩ := st.row 0 rfl
   refine XR_a (op_nilCheck rfl) rfl rfl ?_
   first | refine XR_a (op_field0 rfl rfl) rfl rfl ?_ | refine XR_a (op_fieldn rfl rfl) rfl rfl ?_
   refine XR_wn (opl_store_pt st 2 rfl rfl rfl rfl rfl (rfl)) rfl rfl fun _ hp st => ?_
   simp only [List.set_cons_zero, List.set_cons_succ] at st
   refine XR_nil ?_
   refine X_draw byKind (by kernel_rfl) (by kernel_rfl) ?_
   refine XV rfl rfl rfl (XR_a (op_nilCheck rfl) rfl rfl ?_)
   first | refine XR_a (op_field0 rfl rfl) rfl rfl ?_ | refine XR_a (op_fieldn rfl rfl) rfl rfl ?_
   refine XR_a (op_ld (st.cell 2 (i := 1) rfl rfl) rfl rfl rfl) rfl rfl ?_
   refine XV rfl rfl rfl (XV rfl rfl rfl (XR_a (op_nilCheck rfl) rfl rfl ?_))
   first | refine XR_a (op_field0 rfl rfl) rfl rfl ?_ | refine XR_a (op_fieldn rfl rfl) rfl rfl ?_
   refine XR_a (op_ld (st.cell 2 (i := 3) rfl rfl) rfl rfl rfl) rfl rfl ?_
   refine XR_wn (opl_mapPut st 1 rfl rfl rfl rfl (by kernel_rfl)) rfl rfl fun _ hp st => ?_
   simp only [List.set_cons_zero, List.set_cons_succ] at st
   rw [← lastF_succ] at st
   refine XR_nil (X_blk (X_reg (XV rfl rfl rfl (XR_a (op_nilCheck rfl) rfl rfl ?_))))
   first | refine XR_a (op_field0 rfl rfl) rfl rfl ?_ | refine XR_a (op_fieldn rfl rfl) rfl rfl ?_
   refine XR_a (op_ld (st.cell 2 (i := 3) rfl rfl) rfl rfl rfl) rfl rfl ?_
   first | refine XR_a (op_addN (n := 1) rfl rfl (by simp only [inK]; omega)) rfl rfl ?_ | refine XR_a (op_addI rfl rfl (by simp only [inK]; omega)) rfl rfl ?_ | refine XR_a (op_add rfl rfl) rfl rfl ?_
   refine XR_a (op_nilCheck rfl) rfl rfl ?_
   first | refine XR_a (op_field0 rfl rfl) rfl rfl ?_ | refine XR_a (op_fieldn rfl rfl) rfl rfl ?_
   refine XR_wn (opl_store_pt st 2 rfl rfl rfl rfl rfl (rfl)) rfl rfl fun _ hp st => ?_
   simp only [List.set_cons_zero, List.set_cons_succ] at st
   refine XR_nil ?_
   exact X_again (s + 1) (.cons rfl (.cons rfl (.nil _))) ⟨by omega, by omega, St.fin.2 ⟨_, _, st⟩⟩ (by omega)
  ·obtain rfl : q = none := by simpa using hq1
   refine XR_as (.tuple #[.int .i64 0, .bool false]) rfl ?_
   refine XV rfl rfl rfl (XR_a (op_extract rfl rfl) rfl rfl (XR_a (op_extract rfl rfl) rfl rfl (XA rfl rfl rfl (XA rfl rfl rfl (XR_nil (X_seq (X_seq (X_reg (XV rfl rfl rfl ?_)))))))))
   refine XR_a (op_not rfl) rfl rfl ?_
   refine XR_as (.bool true) rfl ?_
   refine XR_nil (X_then rfl (X_reg (XA rfl rfl rfl (XR_nil (X_seq (X_reg (XV rfl rfl rfl (XV rfl rfl rfl (XR_a (op_nilCheck rfl) rfl rfl ?_)))))))))
   first | refine XR_a (op_field0 rfl rfl) rfl rfl ?_ | refine XR_a (op_fieldn rfl rfl) rfl rfl ?_
   refine XR_a (op_ld (st.cell 2 (i := 2) rfl rfl) rfl rfl rfl) rfl rfl ?_
   refine XV rfl rfl rfl ?_
   refine XR_wa (opl_var1 (v := iV (optI none)) rfl rfl rfl) rfl rfl rfl ?_
   rintro _ hp ⟨Aq, rfl, hxq, hrq⟩
   replace st := st.ext hxq
   refine XR_wa (opl_append st 0 rfl (hrq) (rfl) (one_iV [optI _]) (by simp [prevs_length]; omega) rfl rfl rfl rfl rfl rfl rfl) rfl rfl rfl fun v hp st => ?_
   simp only [List.set_cons_zero, List.set_cons_succ] at st
   rw [← hq, show (prevs b s).map iV ++ [iV (optI (prevM b s))] = (prevs b (s + 1)).map iV by rw [prevs_succ, List.map_append]; rfl] at st
   obtain ⟨A7, n7, c7, rfl, _⟩ := st.row 0 rfl
   refine XR_a (op_nilCheck rfl) rfl rfl ?_
   first | refine XR_a (op_field0 rfl rfl) rfl rfl ?_ | refine XR_a (op_fieldn rfl rfl) rfl rfl ?_
   refine XR_wn (opl_store_pt st 2 rfl rfl rfl rfl rfl (rfl)) rfl rfl fun _ hp st => ?_
   simp only [List.set_cons_zero, List.set_cons_succ] at st
   refine XR_nil ?_
   refine X_draw byKind (by kernel_rfl) (by kernel_rfl) ?_
   refine XV rfl rfl rfl (XR_a (op_nilCheck rfl) rfl rfl ?_)
   first | refine XR_a (op_field0 rfl rfl) rfl rfl ?_ | refine XR_a (op_fieldn rfl rfl) rfl rfl ?_
   refine XR_a (op_ld (st.cell 2 (i := 1) rfl rfl) rfl rfl rfl) rfl rfl ?_
   refine XV rfl rfl rfl (XV rfl rfl rfl (XR_a (op_nilCheck rfl) rfl rfl ?_))
   first | refine XR_a (op_field0 rfl rfl) rfl rfl ?_ | refine XR_a (op_fieldn rfl rfl) rfl rfl ?_
   refine XR_a (op_ld (st.cell 2 (i := 3) rfl rfl) rfl rfl rfl) rfl rfl ?_
   refine XR_wn (opl_mapPut st 1 rfl rfl rfl rfl (by kernel_rfl)) rfl rfl fun _ hp st => ?_
   simp only [List.set_cons_zero, List.set_cons_succ] at st
   rw [← lastF_succ] at st
   refine XR_nil (X_blk (X_reg (XV rfl rfl rfl (XR_a (op_nilCheck rfl) rfl rfl ?_))))
   first | refine XR_a (op_field0 rfl rfl) rfl rfl ?_ | refine XR_a (op_fieldn rfl rfl) rfl rfl ?_
   refine XR_a (op_ld (st.cell 2 (i := 3) rfl rfl) rfl rfl rfl) rfl rfl ?_
   first | refine XR_a (op_addN (n := 1) rfl rfl (by simp only [inK]; omega)) rfl rfl ?_ | refine XR_a (op_addI rfl rfl (by simp only [inK]; omega)) rfl rfl ?_ | refine XR_a (op_add rfl rfl) rfl rfl ?_
   refine XR_a (op_nilCheck rfl) rfl rfl ?_
   first | refine XR_a (op_field0 rfl rfl) rfl rfl ?_ | refine XR_a (op_fieldn rfl rfl) rfl rfl ?_
   refine XR_wn (opl_store_pt st 2 rfl rfl rfl rfl rfl (rfl)) rfl rfl fun _ hp st => ?_
   simp only [List.set_cons_zero, List.set_cons_succ] at st
   refine XR_nil ?_
   exact X_again (s + 1) (.cons rfl (.cons rfl (.nil _))) ⟨by omega, by omega, St.fin.2 ⟨_, _, st⟩⟩ (by omega)
 ·refine X_exit rfl ?_
  refine X_end .nil ?_
  have he : s = max u (a + 1) := by omega
  rw [← he]
  exact St.fin.2 ⟨_, _, st⟩
theorem mchain_spec {p a : Nat} {h0 : Heap} : Ret Try.prog 100 [.pointer (some ⟨p, 0, none⟩), nV a] h0 fun v h' => ∃ p1 p2, v = .func (.func 126) #[] #[.pointer (some ⟨p1, 0, none⟩), .pointer (some ⟨p2, 0, none⟩)] ∧ St h0.size h0 h' [pt p2 3 [nV a], pt p1 108 [.pointer (some ⟨p, 0, none⟩)]] := by
 refine ret_of_X Try.func100 rfl rfl fun w0 hw0 => ?_
 simp only [argE, Nat.zero_add, Nat.reduceAdd]
 have st := St.start h0
 refine X_seq (X_reg ?_)
 refine XR_wa (opl_bx rfl rfl) rfl rfl rfl ?_
 rintro _ hp ⟨p1, rfl, hnew⟩
 replace st := st.new hnew
 refine XR_wa (opl_bx rfl rfl) rfl rfl rfl ?_
 rintro _ hp ⟨p2, rfl, hnew⟩
 replace st := st.new hnew
 refine XA rfl rfl rfl (XR_nil (X_seq (X_reg ?_)))
 refine XR_a (op_mkFunc rfl) rfl rfl ?_
 refine XA rfl rfl rfl (XR_nil ?_)
 refine X_ret (.cons (.tmp rfl) .nil) ?_
 exact ⟨_, _, rfl, st⟩
theorem mchain_iter {B y p1 p2 p n c u a : Nat} {A : Option Addr} {b : List UInt8} {F : List Res} {h0 : Heap} (JR JD : List Nat → List Res)
  (st0 : St B h0 h0 (finR p A n c u b :: pt p1 108 [.pointer (some ⟨p, 0, none⟩)] :: pt p2 3 [nV a] :: (JR [] ++ F))) (hrB : ∀ h', Low B h0 h' → Rd h' A (b.map byteV)) (hl : b.length = n) (hn : n ≤ 1099511627776) (hu : u ≤ n)
  (hround : ∀ (s : List Nat) (d : Nat) (r : List Nat) (u' : Nat) (F' : List Res) (h : Heap), Low B h0 h → s ++ d :: r = cands b a → 1 ≤ d → d ≤ a → a + 3 ≤ n → St B h h (JR s ++ (finR p A n c u' b :: F')) →
   RRet Try.prog y [nV d] h fun v h' => ∃ t, v = .bool t ∧ (t = true → St B h h' (JR (s ++ [d]) ++ (finR p A n c u' b :: F'))) ∧ (t = false → St B h h' (JD (s ++ [d]) ++ (finR p A n c u' b :: F')))) :
  Ret Try.prog 126 [.func (.yield y) #[] #[], .pointer (some ⟨p1, 0, none⟩), .pointer (some ⟨p2, 0, none⟩)] h0
   fun _ h' => ∃ u' P, u' ≤ n ∧ (P = JR (cands b a) ∨ ∃ s d r, s ++ d :: r = cands b a ∧ P = JD (s ++ [d])) ∧ St B h0 h' (finR p A n c u' b :: pt p1 108 [.pointer (some ⟨p, 0, none⟩)] :: pt p2 3 [nV a] :: (P ++ F)) := by
 refine ret_of_X Try.func126 rfl rfl fun w0 hw0 => ?_
 simp only [argE, Nat.zero_add, Nat.reduceAdd]
 have st := st0
 refine X_seq (X_seq (X_reg ?_))
 refine XR_a (op_ld (st.cell 1 (i := 0) rfl rfl) rfl rfl rfl) rfl rfl ?_
 refine XR_a (op_ld (st.cell 2 (i := 0) rfl rfl) rfl rfl rfl) rfl rfl ?_
 refine XR_wa (opl_call (mwhole_spec st hn) rfl (by kernel_rfl)) rfl rfl rfl ?_
 rintro _ _ ⟨rfl, rfl⟩
 first | refine XR_a (op_notd rfl) rfl rfl ?_ | refine XR_a (op_not rfl) rfl rfl ?_
 refine XR_nil ?_
 refine X_if rfl (fun h => ?_) (fun h => ?_)
 ·have hc0 : cands b a = [] := candN_short (by omega) a
  refine X_ret .nil ?_
  rw [hc0]
  exact ⟨u, _, hu, .inl rfl, st⟩
 ·have ha : a + 3 ≤ n := by omega
  refine X_skip (X_seq (X_reg ?_))
  refine XR_a (op_ld (st.cell 1 (i := 0) rfl rfl) rfl rfl rfl) rfl rfl ?_
  refine XR_a (op_ld (st.cell 2 (i := 0) rfl rfl) rfl rfl rfl) rfl rfl ?_
  refine XR_wa (opl_call (mlearn_spec st.here (fun h' hh => hrB h' (st.low.trans hh)) hl hn ha hu) rfl (by kernel_rfl)) rfl rfl rfl ?_
  rintro _ hp2 st2
  replace st := st.trans st2
  clear st2 st0
  obtain ⟨u', hu'⟩ : ∃ u', max u (a + 1) = u' := ⟨_, rfl⟩
  rw [hu'] at st
  have hau : a < u' := by omega
  have hun : u' ≤ n := by omega
  obtain ⟨v5, m5, sto⟩ := St.fin.1 st
  obtain ⟨A5, n5, c5, rfl, hl5, _, _, hr5⟩ := sto.row 0 rfl
  rw [List.length_map, prevs_length, Nat.mul_one] at hl5
  obtain ⟨g5, o5, rfl, hc5⟩ := hr5.at_ (by rw [List.length_map, prevs_length]; omega)
  refine XR_nil (X_seq ?_)
  refine X_draw byKind (by kernel_rfl) (by kernel_rfl) ?_
  refine XR_a (op_ld (st.cell 1 (i := 0) rfl rfl) rfl rfl rfl) rfl rfl ?_
  refine XR_a (op_nilCheck rfl) rfl rfl ?_
  first | refine XR_a (op_field0 rfl rfl) rfl rfl ?_ | refine XR_a (op_fieldn rfl rfl) rfl rfl ?_
  refine XR_a (op_ld (sto.cell 2 (i := 2) rfl rfl) rfl rfl rfl) rfl rfl ?_
  refine XR_a (op_ld (st.cell 2 (i := 0) rfl rfl) rfl rfl rfl) rfl rfl ?_
  refine XR_a (op_index1 (i := a) rfl rfl rfl (by omega)) rfl rfl ?_
  refine XR_a (op_ld (hc5 a (iV (optI (prevM b a))) (by rw [List.getElem?_map, prevs_get hau]; rfl)) rfl rfl rfl) rfl rfl ?_
  refine XA rfl rfl rfl (XR_nil (X_block ?_))
  refine X_loop (fun s => match s.2 with | none => 0 | some q => q + 1) (fun s => [(0, .func (.yield y) #[] #[]), (1, .pointer (some ⟨p1, 0, none⟩)), (2, .pointer (some ⟨p2, 0, none⟩)), (4, iV (optI s.2))])
   (fun (s : List Nat × Option Nat) hp => s.1 ++ tellM a (walkM b a s.2) = cands b a ∧ (∀ q, s.2 = some q → q < a ∧ keyM b q = keyM b a) ∧ St B h0 hp (finR p A n c u' b :: pt p1 108 [.pointer (some ⟨p, 0, none⟩)] :: pt p2 3 [nV a] :: (JR s.1 ++ F)))
   ([], prevM b a) (.cons rfl (.cons rfl (.cons rfl (.cons rfl (.nil _))))) ⟨by rw [cands_tell (by omega)]; rfl, fun q hq => lastM_lt hq, st⟩ ?_
  clear st sto hr5 hc5
  rintro ⟨s, q⟩ hp ⟨hs, hq, st⟩
  simp only at hs hq st ⊢
  refine X_seq (X_seq (X_reg (XV rfl rfl rfl ?_)))
  refine XR_a (op_geq rfl rfl) rfl rfl ?_
  by_cases hq1 : q.isSome = true
  ·obtain ⟨q', rfl⟩ := Option.isSome_iff_exists.1 hq1
   obtain ⟨hqa, hqk⟩ := hq q' rfl
   refine XR_as (.bool true) (congrArg Value.bool (decide_eq_true (by simp only [optI]; omega))) ?_
   refine XV rfl rfl rfl ?_
   refine XR_a (op_ld (st.cell 2 (i := 0) rfl rfl) rfl rfl rfl) rfl rfl ?_
   refine XV rfl rfl rfl ?_
   refine XR_a (op_subN (m := a) (n := q') rfl rfl (by omega) (by simp only [inK]; omega)) rfl rfl ?_
   refine XR_a (op_leq rfl rfl) rfl rfl ?_
   refine XR_a (op_pick_t rfl rfl) rfl rfl (XR_nil ?_)
   refine X_if rfl (fun h => ?_) (fun h => ?_)
   ·have hlen := keyM_len (b := b) (a := a) (d := a - q') (by omega) (by omega) (by omega) (by omega)
    rw [walk_next hqk, tellM_cons (by omega)] at hs
    refine X_skip (X_seq (X_block (X_seq (X_reg (XV rfl rfl rfl ?_)))))
    refine XR_a (op_ld (st.cell 2 (i := 0) rfl rfl) rfl rfl rfl) rfl rfl ?_
    refine XV rfl rfl rfl ?_
    refine XR_a (op_subN (m := a) (n := q') rfl rfl (by omega) (by simp only [inK]; omega)) rfl rfl ?_
    refine XR_ya (opy_yield rfl (hround s (a - q') (tellM a (walkM b a (prevM b q'))) u' (pt p1 108 [.pointer (some ⟨p, 0, none⟩)] :: pt p2 3 [nV a] :: F) _ st.low hs (by omega) (by omega) ha (st.here.perm (List.perm_append_comm_assoc [_, _, _] _ _))) rfl) rfl rfl rfl ?_
    rintro _ hp5 ⟨t, rfl, hT, hF⟩
    first | refine XR_a (op_notd rfl) rfl rfl ?_ | refine XR_a (op_not rfl) rfl rfl ?_
    refine XR_as (.bool (decide (t = false))) (congrArg Value.bool (by cases t <;> rfl)) ?_
    refine XR_nil ?_
    refine X_if rfl (fun h => ?_) (fun h => ?_)
    ·refine X_ret .nil ?_
     have hb : t = false := h
     exact ⟨u', _, hun, .inr ⟨s, a - q', _, hs, rfl⟩, st.trans ((hF hb).perm (List.perm_append_comm_assoc _ [_, _, _] _))⟩
    ·have hb : t = true := by cases t <;> simp at h ⊢
     replace st := st.trans ((hT hb).perm (List.perm_append_comm_assoc _ [_, _, _] _))
     obtain ⟨v6, m6, sto⟩ := St.fin.1 st
     obtain ⟨A6, n6, c6, rfl, hl6, _, _, hr6⟩ := sto.row 0 rfl
     rw [List.length_map, prevs_length, Nat.mul_one] at hl6
     obtain ⟨g6, o6, rfl, hc6⟩ := hr6.at_ (by rw [List.length_map, prevs_length]; omega)
     refine X_skip (X_blk (X_reg ?_))
     refine XR_a (op_ld (st.cell 1 (i := 0) rfl rfl) rfl rfl rfl) rfl rfl ?_
     refine XR_a (op_nilCheck rfl) rfl rfl ?_
     first | refine XR_a (op_field0 rfl rfl) rfl rfl ?_ | refine XR_a (op_fieldn rfl rfl) rfl rfl ?_
     refine XR_a (op_ld (sto.cell 2 (i := 2) rfl rfl) rfl rfl rfl) rfl rfl ?_
     refine XV rfl rfl rfl ?_
     refine XR_a (op_index1 (i := q') rfl rfl rfl (by omega)) rfl rfl ?_
     refine XR_a (op_ld (hc6 q' (iV (optI (prevM b q'))) (by rw [List.getElem?_map, prevs_get (by omega)]; rfl)) rfl rfl rfl) rfl rfl ?_
     refine XA rfl rfl rfl (XR_nil ?_)
     refine X_again (s ++ [a - q'], prevM b q') (.cons rfl (.cons rfl (.cons rfl (.cons rfl (.nil _))))) ⟨by simp only; rw [List.append_assoc]; exact hs, fun r hr => ?_, st⟩ ?_
     ·obtain ⟨g1, g2⟩ := lastM_lt hr
      exact ⟨by omega, g2.trans hqk⟩
     ·simp only
      cases hr : prevM b q' with
      | none => simp
      | some r => have := (lastM_lt hr).1; simp only; omega
   ·rw [walk_next hqk, tellM_stop (by omega), List.append_nil] at hs
    refine X_exit rfl ?_
    refine X_end .nil ?_
    exact ⟨u', _, hun, .inl rfl, by rw [← hs]; exact st⟩
  ·obtain rfl : q = none := by simpa using hq1
   refine XR_as (.bool false) (congrArg Value.bool (decide_eq_false (by simp only [optI]; omega))) ?_
   refine XV rfl rfl rfl (XR_no rfl rfl (XR_no rfl rfl (XR_no rfl rfl (XR_no rfl rfl (XR_a (op_pick_f rfl rfl) rfl rfl (XR_nil (X_else rfl (X_exit rfl ?_))))))))
   refine X_end .nil ?_
   rw [walkM, show tellM a [] = [] from rfl, List.append_nil] at hs
   exact ⟨u', _, hun, .inl rfl, by rw [← hs]; exact st⟩
end Go.Bn
end

section
set_option linter.unusedVariables false
set_option linter.unusedSimpArgs false
set_option maxHeartbeats 4000000
set_option maxRecDepth 20000
namespace Go.Bn
open Go Proofs
def foldP (f : Nat → Nat) (s : List Nat) : Nat × Nat := pickM f s.length s (0, 0)
theorem pickM_app (f : Nat → Nat) : ∀ (s : List Nat) (k : Nat) (r : List Nat) (st : Nat × Nat), s.length ≤ k → pickM f k (s ++ r) st = pickM f (k - s.length) r (pickM f s.length s st)
 | [], k, r, st, _ => by rw [List.nil_append]; rfl
 | d :: s, 0, r, st, h => by simp at h
 | d :: s, k + 1, r, st, h => by
  rw [List.cons_append, pickM, pickM_app f s k r _ (by simpa using h), List.length_cons, pickM, Nat.add_sub_add_right]
theorem foldP_snoc (f : Nat → Nat) (s : List Nat) (d : Nat) : foldP f (s ++ [d]) = if (foldP f s).1 < f d then (f d, d) else foldP f s := by
 unfold foldP
 rw [pickM_app f s _ [d] _ (by simp), List.length_append, List.length_singleton, Nat.add_sub_cancel_left]
 rfl
theorem foldP_all {f : Nat → Nat} {s : List Nat} {k : Nat} (h : s.length ≤ k) : pickM f k s (0, 0) = foldP f s := by
 have := pickM_app f s k [] (0, 0) h
 rw [List.append_nil, pickM_nil] at this
 exact this
theorem RVc {P : Program} {hp : Heap} {E : Env} {a : Tmp} {t : TypeId} {p : Nat} {v : Value} (h : E.get a = some (.pointer (some ⟨p, 0, none⟩))) (ht : single P t = true) (hc : cellH hp ⟨p, 0, none⟩ = some v) : RV P hp E (.cell a t) v :=
 .cell h fun w hw => run_loadVar_single ht (by rw [hw]; exact hc)
theorem mfind_spec {B p n c u a dep : Nat} {A : Option Addr} {b : List UInt8} {F : List Res} {h0 : Heap} (st0 : St B h0 h0 (finR p A n c u b :: F)) (hrB : ∀ h', Low B h0 h' → Rd h' A (b.map byteV)) (hl : b.length = n) (hn : n ≤ 1099511627776) (hu : u ≤ n) (ha : a ≤ n) (hd : 1 ≤ dep ∧ dep ≤ 256) :
  Ret Try.prog 77 [.pointer (some ⟨p, 0, none⟩), nV a, nV dep] h0 fun v h' => v = retVal [nV (bestM b a dep).1, nV (bestM b a dep).2] ∧ ∃ u', u' ≤ n ∧ St B h0 h' (finR p A n c u' b :: F) := by
 obtain ⟨f, hf⟩ : ∃ f, lenM b a = f := ⟨_, rfl⟩
 have hfl : ∀ d, f d ≤ 258 := fun d => by rw [← hf]; exact lenM_le b a d
 have hbest : bestM b a dep = pickM f dep (cands b a) (0, 0) := by rw [← hf]; rfl
 refine ret_of_X Try.func77 rfl rfl fun w0 hw0 => ?_
 simp only [argE, Nat.zero_add, Nat.reduceAdd]
 have st := st0
 refine X_seq (X_reg ?_)
 refine XR_wa (opl_bx rfl rfl) rfl rfl rfl ?_
 rintro _ hp ⟨p3, rfl, hnew⟩
 replace st := st.new hnew
 refine XR_wa (opl_bx rfl rfl) rfl rfl rfl ?_
 rintro _ hp ⟨p4, rfl, hnew⟩
 replace st := st.new hnew
 refine XR_wa (opl_bx rfl rfl) rfl rfl rfl ?_
 rintro _ hp ⟨p5, rfl, hnew⟩
 replace st := st.new hnew
 refine XR_wa (opl_new rfl) rfl rfl rfl ?_
 rintro _ hp ⟨p6, rfl, hnew⟩
 replace st := st.new hnew
 refine XR_wa (opl_new rfl) rfl rfl rfl ?_
 rintro _ hp ⟨p7, rfl, hnew⟩
 replace st := st.new hnew
 refine XR_nil ?_
 refine X_scope rfl (fun _ _ _ hh => hh) ?_
 refine X_seq (X_seq (X_reg ?_))
 refine XR_a (op_ld (st.cell 4 (i := 0) rfl rfl) rfl rfl rfl) rfl rfl ?_
 refine XR_a (op_ptr_nil rfl rfl rfl) rfl rfl ?_
 refine XV rfl rfl rfl ?_
 refine XR_a (op_ld (st.cell 2 (i := 0) rfl rfl) rfl rfl rfl) rfl rfl ?_
 refine XR_a (op_lss rfl rfl) rfl rfl ?_
 refine XR_as (.bool false) (congrArg Value.bool (decide_eq_false (by omega))) ?_
 refine XR_a (op_pick_f rfl rfl) rfl rfl (XR_nil (X_else rfl (X_skip (X_seq ?_))))
 refine X_label ?_
 refine X_seq (X_seq (X_reg ?_))
 refine XR_a (op_ld (st.cell 4 (i := 0) rfl rfl) rfl rfl rfl) rfl rfl ?_
 refine XR_a (op_ld (st.cell 3 (i := 0) rfl rfl) rfl rfl rfl) rfl rfl ?_
 refine XR_wa (opl_call (mchain_spec) rfl (by kernel_rfl)) rfl rfl rfl ?_
 rintro _ hp6 ⟨q1, q2, rfl, st2⟩
 replace st := st.join st2
 simp only [List.cons_append, List.nil_append] at st
 clear st2
 refine XR_nil (X_block ?_)
 refine X_rangeS st rfl rfl (by kernel_rfl) fun fn tmps L y d hp1 hL hok hx1 st1 => ?_
 obtain ⟨JR, hJR⟩ : ∃ JR : List Nat → List Res, JR = fun s => [andR (s.length < dep) (pt p5 3 [nV (dep - s.length)]), pt p6 3 [nV (foldP f s).1], pt p7 3 [nV (foldP f s).2], pt p3 108 [.pointer (some ⟨p, 0, none⟩)], pt p4 3 [nV a], obj y (L .ready none)] := ⟨_, rfl⟩
 obtain ⟨JD, hJD⟩ : ∃ JD : List Nat → List Res, JD = fun s => [andR (bestM b a dep = foldP f s) (pt p6 3 [nV (foldP f s).1]), pt p7 3 [nV (foldP f s).2], obj y (L .done (some (.exit 0)))] := ⟨_, rfl⟩
 have st2 := St.reF [_, _, _, _, _, _, _, _, _, _] 10 (F := F) st1 [6, 5, 4, 8, 7, 0, 9, 3, 2, 1] (by decide)
 simp only [List.map_cons, List.map_nil, getR, List.cons_append, List.nil_append] at st2
 have st3 : St B h0 hp1 (finR p A n c u b :: pt q1 108 [.pointer (some ⟨p, 0, none⟩)] :: pt q2 3 [nV a] :: (JR [] ++ (obj d (.deferred (some [])) :: F))) := by
  have s3 := (St.and.2 ⟨(show ([] : List Nat).length < dep by simp; omega), st2⟩)
  rw [hJR]
  exact St.reF [_, _, _, _, _, _, _, _, _, _] 10 (F := F) s3 [6, 7, 8, 0, 1, 2, 3, 4, 5, 9] (by decide)
 refine Ret.mono (mchain_iter (y := y) JR JD st3.here (fun h' hh => hrB h' (st3.low.trans hh)) hl hn hu ?_) ?_
 ·intro s x r u' F' h hlow hcs hx1' hxa ha3 st4
  subst hL
  subst hJR
  subst hJD
  simp only [List.cons_append, List.nil_append] at st4
  obtain ⟨hsd, st4⟩ := St.and.1 st4
  refine rret_of_X (st4.obj_at 5 rfl) hok rfl rfl fun w0 hw0 => ?_
  simp only [penv]
  have hsn := foldP_snoc f s x
  have hb2 : bestM b a dep = pickM f (dep - (s.length + 1)) r (foldP f (s ++ [x])) := by
   rw [hbest, ← hcs, show s ++ x :: r = (s ++ [x]) ++ r by simp, pickM_app f (s ++ [x]) dep r _ (by simp; omega)]
   rw [List.length_append, List.length_singleton]; unfold foldP; rw [List.length_append, List.length_singleton]
  obtain ⟨R, hR⟩ : ∃ R, foldP f s = R := ⟨_, rfl⟩
  rw [hR] at st4 hsn
  refine X_reg (XA rfl rfl rfl (XR_nil ?_))
  refine X_begin (st4.obj_at 5 rfl) ?_
  have st := st4.loop 5 .busy none rfl
  simp only [List.set_cons_zero, List.set_cons_succ] at st
  obtain ⟨v6, m6, sto⟩ := St.fin.1 (st.perm (List.perm_middle (l₁ := [_, _, _, _, _, _])))
  refine X_block (X_seq (X_seq ?_))
  refine X_draw (butAt [(6, .grow)]) (by kernel_rfl) (by kernel_rfl) ?_
  refine XR_a (op_ld (st.cell 3 (i := 0) rfl rfl) rfl rfl rfl) rfl rfl ?_
  refine XR_a (op_nilCheck rfl) rfl rfl ?_
  first | refine XR_a (op_field0 rfl rfl) rfl rfl ?_ | refine XR_a (op_fieldn rfl rfl) rfl rfl ?_
  refine XR_a (op_ld (sto.cell 2 (i := 0) rfl rfl) rfl rfl rfl) rfl rfl ?_
  refine XR_a (op_ld (st.cell 4 (i := 0) rfl rfl) rfl rfl rfl) rfl rfl ?_
  refine XV rfl rfl rfl ?_
  refine XR_ga (opl_call (mlen_spec (hrB _ (st3.low.trans (hlow.trans st.low))) hl hn (by omega) (by omega)) rfl (by kernel_rfl)) rfl rfl rfl (fun _ _ h => h.2 ▸ Low.refl _ _) ?_
  rintro _ _ ⟨rfl, rfl⟩
  have hfx : lenM b a x = f x := by rw [← hf]
  rw [hfx]
  clear sto
  refine XA rfl rfl rfl (XR_nil (X_seq (X_reg (XV rfl rfl rfl ?_))))
  refine XR_a (op_ld (st.cell 1 (i := 0) rfl rfl) rfl rfl rfl) rfl rfl ?_
  refine XR_a (op_gtr rfl rfl) rfl rfl ?_
  refine XR_nil ?_
  refine X_if rfl (fun h => ?_) (fun h => ?_)
  ·rw [if_pos (by omega)] at hsn
   refine X_reg (XV rfl rfl rfl (XV rfl rfl rfl ?_))
   refine XR_wn (opl_store_pt st 1 rfl rfl rfl rfl rfl (rfl)) rfl rfl fun _ hp st => ?_
   simp only [List.set_cons_zero, List.set_cons_succ] at st
   refine XR_wn (opl_store_pt st 2 rfl rfl rfl rfl rfl (rfl)) rfl rfl fun _ hp st => ?_
   simp only [List.set_cons_zero, List.set_cons_succ] at st
   refine XR_nil (X_seq (X_reg ?_))
   refine XR_a (op_ld (st.cell 0 (i := 0) rfl rfl) rfl rfl rfl) rfl rfl ?_
   refine XR_a (op_subN (m := dep - s.length) (n := 1) rfl rfl (by omega) (by simp only [inK]; omega)) rfl rfl ?_
   refine XR_wn (opl_store_pt st 0 rfl rfl rfl rfl rfl (rfl)) rfl rfl fun _ hp st => ?_
   simp only [List.set_cons_zero, List.set_cons_succ] at st
   refine XR_nil (X_seq (X_reg ?_))
   refine XR_a (op_ld (st.cell 0 (i := 0) rfl rfl) rfl rfl rfl) rfl rfl ?_
   refine XR_a (op_eql rfl rfl) rfl rfl ?_
   refine XV rfl rfl rfl ?_
   refine XR_if 36 rfl (fun h => ?_) (fun h => ?_)
   ·refine XR_no rfl rfl (XR_no rfl rfl (XR_a (op_pick_t rfl rfl) rfl rfl (XR_nil (X_then rfl ?_))))
    have hbf : bestM b a dep = foldP f (s ++ [x]) := by rw [hb2, show dep - (s.length + 1) = 0 by omega]; rfl
    refine X_rnd_exit rfl (st.obj_at 5 rfl) ⟨false, rfl, fun hh => absurd hh Bool.false_ne_true, fun _ => ?_⟩
    replace st := st.loop 5 .done (some (.exit 0)) rfl
    simp only [List.set_cons_zero, List.set_cons_succ] at st
    have st4 := (St.reF [_, _, _, _, _, _] 6 st [0, 3, 4, 1, 2, 5] (by decide)).tail.tail.tail
    simp only [List.map_cons, List.map_nil, getR, List.cons_append, List.nil_append] at st4
    exact St.and.2 ⟨hbf, by rw [hsn]; exact st4⟩
   ·refine XR_a (op_ld (st.cell 1 (i := 0) rfl rfl) rfl rfl rfl) rfl rfl ?_
    refine XR_a (op_eql rfl rfl) rfl rfl ?_
    refine XR_a (op_pick_f rfl rfl) rfl rfl (XR_nil ?_)
    refine X_if rfl (fun h => ?_) (fun h => ?_)
    ·have hbf : bestM b a dep = foldP f (s ++ [x]) := by rw [hb2]; exact pickM_full hfl _ _ _ (by rw [hsn]; first | omega | (simp only; omega))
     refine X_rnd_exit rfl (st.obj_at 5 rfl) ⟨false, rfl, fun hh => absurd hh Bool.false_ne_true, fun _ => ?_⟩
     replace st := st.loop 5 .done (some (.exit 0)) rfl
     simp only [List.set_cons_zero, List.set_cons_succ] at st
     have st4 := (St.reF [_, _, _, _, _, _] 6 st [0, 3, 4, 1, 2, 5] (by decide)).tail.tail.tail
     simp only [List.map_cons, List.map_nil, getR, List.cons_append, List.nil_append] at st4
     exact St.and.2 ⟨hbf, by rw [hsn]; exact st4⟩
    ·refine X_skip (X_blk ?_)
     refine X_rnd (st.obj_at 5 rfl) ⟨true, rfl, fun _ => ?_, fun hh => absurd hh.symm Bool.false_ne_true⟩
     replace st := st.loop 5 .ready none rfl
     simp only [List.set_cons_zero, List.set_cons_succ] at st
     rw [show dep - s.length - 1 = dep - (s ++ [x]).length by rw [List.length_append, List.length_singleton]; omega] at st
     exact St.and.2 ⟨by rw [List.length_append, List.length_singleton]; omega, by rw [hsn]; exact st⟩
  ·rw [if_neg (by omega)] at hsn
   refine X_skip (X_seq (X_reg ?_))
   refine XR_a (op_ld (st.cell 0 (i := 0) rfl rfl) rfl rfl rfl) rfl rfl ?_
   refine XR_a (op_subN (m := dep - s.length) (n := 1) rfl rfl (by omega) (by simp only [inK]; omega)) rfl rfl ?_
   refine XR_wn (opl_store_pt st 0 rfl rfl rfl rfl rfl (rfl)) rfl rfl fun _ hp st => ?_
   simp only [List.set_cons_zero, List.set_cons_succ] at st
   refine XR_nil (X_seq (X_reg ?_))
   refine XR_a (op_ld (st.cell 0 (i := 0) rfl rfl) rfl rfl rfl) rfl rfl ?_
   refine XR_a (op_eql rfl rfl) rfl rfl ?_
   refine XV rfl rfl rfl ?_
   refine XR_if 36 rfl (fun h => ?_) (fun h => ?_)
   ·refine XR_no rfl rfl (XR_no rfl rfl (XR_a (op_pick_t rfl rfl) rfl rfl (XR_nil (X_then rfl ?_))))
    have hbf : bestM b a dep = foldP f (s ++ [x]) := by rw [hb2, show dep - (s.length + 1) = 0 by omega]; rfl
    refine X_rnd_exit rfl (st.obj_at 5 rfl) ⟨false, rfl, fun hh => absurd hh Bool.false_ne_true, fun _ => ?_⟩
    replace st := st.loop 5 .done (some (.exit 0)) rfl
    simp only [List.set_cons_zero, List.set_cons_succ] at st
    have st4 := (St.reF [_, _, _, _, _, _] 6 st [0, 3, 4, 1, 2, 5] (by decide)).tail.tail.tail
    simp only [List.map_cons, List.map_nil, getR, List.cons_append, List.nil_append] at st4
    exact St.and.2 ⟨hbf, by rw [hsn]; exact st4⟩
   ·refine XR_a (op_ld (st.cell 1 (i := 0) rfl rfl) rfl rfl rfl) rfl rfl ?_
    refine XR_a (op_eql rfl rfl) rfl rfl ?_
    refine XR_a (op_pick_f rfl rfl) rfl rfl (XR_nil ?_)
    refine X_if rfl (fun h => ?_) (fun h => ?_)
    ·have hbf : bestM b a dep = foldP f (s ++ [x]) := by rw [hb2]; exact pickM_full hfl _ _ _ (by rw [hsn]; first | omega | (simp only; omega))
     refine X_rnd_exit rfl (st.obj_at 5 rfl) ⟨false, rfl, fun hh => absurd hh Bool.false_ne_true, fun _ => ?_⟩
     replace st := st.loop 5 .done (some (.exit 0)) rfl
     simp only [List.set_cons_zero, List.set_cons_succ] at st
     have st4 := (St.reF [_, _, _, _, _, _] 6 st [0, 3, 4, 1, 2, 5] (by decide)).tail.tail.tail
     simp only [List.map_cons, List.map_nil, getR, List.cons_append, List.nil_append] at st4
     exact St.and.2 ⟨hbf, by rw [hsn]; exact st4⟩
    ·refine X_skip (X_blk ?_)
     refine X_rnd (st.obj_at 5 rfl) ⟨true, rfl, fun _ => ?_, fun hh => absurd hh.symm Bool.false_ne_true⟩
     replace st := st.loop 5 .ready none rfl
     simp only [List.set_cons_zero, List.set_cons_succ] at st
     rw [show dep - s.length - 1 = dep - (s ++ [x]).length by rw [List.length_append, List.length_singleton]; omega] at st
     exact St.and.2 ⟨by rw [List.length_append, List.length_singleton]; omega, by rw [hsn]; exact st⟩
 rintro _ h' ⟨u', P, hun, hP, st4⟩
 have st5 := st3.trans st4
 clear st4
 rcases hP.symm with ⟨s, x, r, hcs, rfl⟩ | rfl
 ·subst hJD
  simp only [List.cons_append, List.nil_append] at st5
  have st6 := St.reF [_, _, _, _, _, _, _] 7 (F := F) st5 [5, 1, 2, 3, 4, 6, 0] (by decide)
  simp only [List.map_cons, List.map_nil, getR, List.cons_append, List.nil_append] at st6
  refine .inr ⟨.exit 0, _, st6, fun hp3 st7 => ?_⟩
  obtain ⟨hbf, st⟩ := St.and.1 st7.tail.tail.tail
  refine X_exit rfl (X_seq ?_)
  refine X_draw_two byKind [0] 1 [2, 3] 2 [1, 3] (by kernel_rfl) (by kernel_rfl) rfl rfl rfl ?_
  refine XR_a (op_ld (st.cell 0 (i := 0) rfl rfl) rfl rfl rfl) rfl rfl ?_
  refine XR_nil ?_
  refine X_alt (σ := Unit) (fun _ => [(6, .pointer (some ⟨p6, 0, none⟩)), (7, .pointer (some ⟨p7, 0, none⟩))]) (fun _ hp => St B h0 hp (pt p6 3 [nV (foldP f (s ++ [x])).1] :: pt p7 3 [nV (foldP f (s ++ [x])).2] :: obj d (.deferred (some [])) :: finR p A n c u' b :: F)) ?_ ?_ ?_
  ·refine XR_a (op_ld (st.cell 1 (i := 0) rfl rfl) rfl rfl rfl) rfl rfl ?_
   refine XR_wn (opl_store_pt st 0 rfl rfl rfl rfl rfl (rfl)) rfl rfl fun _ hp st => ?_
   simp only [List.set_cons_zero, List.set_cons_succ] at st
   refine XR_wn (opl_store_pt st 1 rfl rfl rfl rfl rfl (rfl)) rfl rfl fun _ hp st => ?_
   simp only [List.set_cons_zero, List.set_cons_succ] at st
   refine XR_nil ?_
   exact X_meet () (.cons rfl (.cons rfl (.nil _))) st
  ·refine XR_wn (opl_store_pt st 0 rfl rfl rfl rfl rfl (rfl)) rfl rfl fun _ hp st => ?_
   simp only [List.set_cons_zero, List.set_cons_succ] at st
   refine XR_a (op_ld (st.cell 1 (i := 0) rfl rfl) rfl rfl rfl) rfl rfl ?_
   refine XR_wn (opl_store_pt st 1 rfl rfl rfl rfl rfl (rfl)) rfl rfl fun _ hp st => ?_
   simp only [List.set_cons_zero, List.set_cons_succ] at st
   refine XR_nil ?_
   exact X_meet () (.cons rfl (.cons rfl (.nil _))) st
  clear st
  rintro ⟨⟩ hp st
  have stp := st.put 2 (.deferred none) rfl
  refine X_retM (d := d) (.cons (RVc rfl rfl (stp.cell 0 (i := 0) rfl rfl)) (.cons (RVc rfl rfl (stp.cell 1 (i := 0) rfl rfl)) .nil)) ?_ (st.obj_at 2 rfl)
  rw [hbf]
  exact ⟨rfl, u', hun, stp.tail.tail.tail⟩
 subst hJR
 simp only [List.cons_append, List.nil_append] at st5
 have st6 := St.reF [_, _, _, _, _, _, _, _, _, _] 10 (F := F) st5 [8, 1, 2, 3, 4, 5, 6, 7, 9, 0] (by decide)
 simp only [List.map_cons, List.map_nil, getR, List.cons_append, List.nil_append] at st6
 refine .inl ⟨_, st6, fun hp3 st7 => ?_⟩
 clear st5 st6
 obtain ⟨hcd, st8⟩ := St.and.1 st7.tail.tail.tail
 have st := (St.reF [_, _, _, _, _, _, _] 7 (F := F) st8 [0, 3, 4, 1, 2, 5, 6] (by decide)).tail.tail.tail
 simp only [List.map_cons, List.map_nil, getR, List.cons_append, List.nil_append] at st
 rw [foldP_all (by omega)] at hbest
 refine X_blk (X_seq ?_)
 refine X_draw_two byKind [0] 1 [2, 3] 2 [1, 3] (by kernel_rfl) (by kernel_rfl) rfl rfl rfl ?_
 refine XR_a (op_ld (st.cell 0 (i := 0) rfl rfl) rfl rfl rfl) rfl rfl ?_
 refine XR_nil ?_
 refine X_alt (σ := Unit) (fun _ => [(6, .pointer (some ⟨p6, 0, none⟩)), (7, .pointer (some ⟨p7, 0, none⟩))]) (fun _ hp => St B h0 hp (pt p6 3 [nV (foldP f (cands b a)).1] :: pt p7 3 [nV (foldP f (cands b a)).2] :: obj d (.deferred (some [])) :: finR p A n c u' b :: F)) ?_ ?_ ?_
 ·refine XR_a (op_ld (st.cell 1 (i := 0) rfl rfl) rfl rfl rfl) rfl rfl ?_
  refine XR_wn (opl_store_pt st 0 rfl rfl rfl rfl rfl (rfl)) rfl rfl fun _ hp st => ?_
  simp only [List.set_cons_zero, List.set_cons_succ] at st
  refine XR_wn (opl_store_pt st 1 rfl rfl rfl rfl rfl (rfl)) rfl rfl fun _ hp st => ?_
  simp only [List.set_cons_zero, List.set_cons_succ] at st
  refine XR_nil ?_
  exact X_meet () (.cons rfl (.cons rfl (.nil _))) st
 ·refine XR_wn (opl_store_pt st 0 rfl rfl rfl rfl rfl (rfl)) rfl rfl fun _ hp st => ?_
  simp only [List.set_cons_zero, List.set_cons_succ] at st
  refine XR_a (op_ld (st.cell 1 (i := 0) rfl rfl) rfl rfl rfl) rfl rfl ?_
  refine XR_wn (opl_store_pt st 1 rfl rfl rfl rfl rfl (rfl)) rfl rfl fun _ hp st => ?_
  simp only [List.set_cons_zero, List.set_cons_succ] at st
  refine XR_nil ?_
  exact X_meet () (.cons rfl (.cons rfl (.nil _))) st
 clear st
 rintro ⟨⟩ hp st
 have stp := st.put 2 (.deferred none) rfl
 refine X_retM (d := d) (.cons (RVc rfl rfl (stp.cell 0 (i := 0) rfl rfl)) (.cons (RVc rfl rfl (stp.cell 1 (i := 0) rfl rfl)) .nil)) ?_ (st.obj_at 2 rfl)
 rw [hbest]
 exact ⟨rfl, u', hun, stp.tail.tail.tail⟩
end Go.Bn
end
