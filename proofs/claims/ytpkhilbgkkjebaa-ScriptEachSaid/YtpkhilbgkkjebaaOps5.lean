/- The engine, part 6: values of many cells: stored, and given as a result; a row's element of many cells. -/
import Derived.Test.YtpkhilbgkkjebaaOps4
import Derived.Laws.Tables
namespace Go.Bn
open Go

section
variable {P : Program} {E : Env} {hp : Heap} {cl : Cls} {d : Option Tmp} {ty : TypeId} {pos : String} {af : Array Edge} {g : Option (Nat × Bool)}
variable {x y : Operand} {t t' : TypeId}

theorem run_sizeOf_agg {n : Nat} (ht : aggN P t = some n) (w : World) : (sizeOf t).run P w = .ok n w := by
  have key : ∀ i, P.info? t = some i → i.size = n → (sizeOf t).run P w = .ok n w := by
    intro i hi hs
    simp [sizeOf, typeInfo, hi, hs]
  unfold aggN at ht
  split at ht
  · split at ht
    · rename_i hi; cases ht; exact key _ hi rfl
    · cases ht
  · split at ht
    · rename_i hi; cases ht; exact key _ hi rfl
    · cases ht
  · cases ht
/-- A store of a value of many cells into a block of one's own, from a cell of it on. -/
theorem opl_store_pts {B : Nat} {h0 : Heap} {rs : List Res} (st : St B h0 hp rs) (j : Nat) {p o : Nat} {T : TypeId} {cs us : List Value} {ua : Array Value} (hj : rs[j]? = some (pt p T cs)) (hx : ev E x = some (.pointer (some ⟨p, o, none⟩))) (hy : ev E y = some (.agg ua))
    (hu : ua.toList = us) (ht : aggN P t = some us.length) (h1 : ∀ u ∈ us, Value.one u = true) (hle : o + us.length ≤ cs.length) :
    OpL P ⟨d, .store t x y, ty, pos, af, g⟩ E hp (fun _ hp' => St B h0 hp' (rs.set j (pt p T (cs.take o ++ us ++ cs.drop (o + us.length))))) := by
  obtain rfl : ua = us.toArray := by rw [← hu]
  obtain ⟨S, ⟨hS, hb⟩, _⟩ := st.at_ hj
  intro n a w ho hw K hK
  subst hw
  obtain ⟨w', hr, hi, hs, hother, hthere⟩ := run_storeCells (P := P) (p := p) (o := o) us 0 cs.toArray w h1 hb (by simpa using hle) (.inl rfl)
  have hrun : (execOp a.eval ⟨d, .store t x y, ty, pos, af, g⟩).run P w = .ok .skip w' := by
    simp [execOp, ho.eval hx, ho.eval hy, Instr.storeAt, Instr.sureAddr, storeVar, Value.cells, run_sizeOf_agg ht, hr]
  simp only [Oper.wp, hrun, Oper.upon]
  refine hK _ _ hi (st.upd hj ⟨by rw [hs]; exact Nat.le_refl _, fun S' hS' => ?_⟩)
  obtain ⟨hS1, hb1⟩ := hS'
  refine ⟨S', ⟨hS1, ?_⟩, fun k hk => .inl hk, fun k _ hk => hother k (fun e => hk ((hS1 k).2 e))⟩
  rw [hthere]; simp
theorem opl_store_whole {B : Nat} {h0 : Heap} {rs : List Res} (st : St B h0 hp rs) (j : Nat) {p : Nat} {T : TypeId} {cs us : List Value} {ua : Array Value} (hj : rs[j]? = some (pt p T cs)) (hx : ev E x = some (.pointer (some ⟨p, 0, none⟩))) (hy : ev E y = some (.agg ua))
    (hu : ua.toList = us) (ht : aggN P t = some us.length) (h1 : ∀ u ∈ us, Value.one u = true) (hl : us.length = cs.length) :
    OpL P ⟨d, .store t x y, ty, pos, af, g⟩ E hp (fun _ hp' => St B h0 hp' (rs.set j (pt p T us))) := by
  intro n a w ho hw K hK
  refine opl_store_pts st j hj hx hy hu ht h1 (by omega) n a w ho hw K fun v' w' hi h => hK v' w' hi ?_
  simpa [hl] using h
/-- A result that lies in a variable. -/
theorem RV_agg {a : Tmp} {p o n : Nat} {vs : List Value} (h : E.get a = some (.pointer (some ⟨p, o, none⟩))) (ht : aggN P t = some n) (hl : vs.length = n) (hc : ∀ j u, vs[j]? = some u → cellH hp ⟨p, o + j, none⟩ = some u) : RV P hp E (.cell a t) (.agg vs.toArray) :=
  .cell h fun w hw => by subst hw; exact run_loadVar_agg ht hl hc
theorem RV_one {a : Tmp} {ad : Addr} {v : Value} (h : E.get a = some (.pointer (some ad))) (ht : single P t = true) (hc : cellH hp ad = some v) : RV P hp E (.cell a t) v :=
  .cell h fun w hw => by subst hw; exact run_loadVar_single ht hc
end
/-- A block's cells, all. -/
theorem St.cells {B : Nat} {h0 hp : Heap} {rs : List Res} (s : St B h0 hp rs) (j : Nat) {p : Nat} {T : TypeId} {cs : List Value} (hj : rs[j]? = some (pt p T cs)) : ∀ i u, cs[i]? = some u → cellH hp ⟨p, 0 + i, none⟩ = some u := by
  intro i u hu
  rw [Nat.zero_add]
  exact s.cell j hj hu
/-- Some of them. -/
theorem St.cellsAt {B : Nat} {h0 hp : Heap} {rs : List Res} (s : St B h0 hp rs) (j o : Nat) {p : Nat} {T : TypeId} {cs vs : List Value} (hj : rs[j]? = some (pt p T cs)) (hv : ∀ i u, vs[i]? = some u → cs[o + i]? = some u) : ∀ i u, vs[i]? = some u → cellH hp ⟨p, o + i, none⟩ = some u :=
  fun i u hu => s.cell j hj (hv i u hu)

theorem List.set_getElem?_self' {α : Type} {l : List α} {j : Nat} {a : α} (h : l[j]? = some a) : l.set j a = l := by
  obtain ⟨hlt, rfl⟩ := List.getElem?_eq_some_iff.1 h
  exact List.set_getElem_self hlt
section
variable {P : Program} {E : Env} {hp : Heap} {d : Option Tmp} {ty : TypeId} {pos : String} {af : Array Edge} {g : Option (Nat × Bool)}
variable {x : Operand} {t : TypeId}
theorem freeze_at {w : World} {gb n : Nat} {cur : Array Value} {e : TypeId} {fr : Nat × Nat} (h : w.heap[gb]? = some (.cells cur e fr)) (hf : unfrozen n fr) :
    ∃ fr', (w.freeze ⟨gb, n, none⟩ 1).heap[gb]? = some (.cells cur e fr') ∧ unfrozen n fr' ∧ (w.freeze ⟨gb, n, none⟩ 1).heap.size = w.heap.size ∧ (∀ k, k ≠ gb → (w.freeze ⟨gb, n, none⟩ 1).heap[k]? = w.heap[k]?) ∧ Inv w (w.freeze ⟨gb, n, none⟩ 1) := by
  unfold World.freeze
  rw [if_neg (by decide)]
  refine ⟨if fr.1 == fr.2 then (n, n + 1) else (min fr.1 n, max fr.2 (n + 1)), ?_, ?_, by simp, ?_, ⟨rfl, rfl, rfl⟩⟩
  · simp [Array.getElem?_modify, h]
  · split
    · exact .inr (Nat.le_refl _)
    · rename_i hne
      rcases hf with hf | hf
      · exact absurd hf (by simpa using hne)
      · exact .inr (by simp only; omega)
  · intro k hk
    simp [Array.getElem?_modify, Ne.symm hk]
/-- A string's bytes, of a literal that was just laid. -/
theorem opl_bytesLit {B : Nat} {h0 : Heap} {rs : List Res} (st : St B h0 hp rs) (j : Nat) {e : TypeId} {A : Addr} {n c : Nat} {vs : List Value} (hj : rs[j]? = some (row e 1 (.slice (some A) n c) vs)) (hx : ev E x = some (.slice (some A) n c)) (ht : isBytesT P t = true) :
    OpL P ⟨d, .convert t t x, ty, pos, af, g⟩ E hp (fun u hp' => u = .slice (some A) n c ∧ St B h0 hp' rs) := by
  obtain ⟨S, hr, hSB⟩ := st.at_ hj
  intro m a w ho hw K hK
  subst hw
  rcases hr with ⟨hh, _⟩ | ⟨gb, n', cap, cur, fr, hh, h2, h3, h4, h5, h6, h7, h8, hS⟩
  · cases hh
  · cases hh
    obtain ⟨fr', k1, k2, k3, k4, k5⟩ := freeze_at (n := cur.size) h2 h8
    have hrun : (execOp a.eval ⟨d, .convert t t x, ty, pos, af, g⟩).run P w = .ok (.value (.slice (some ⟨gb, 0, none⟩) n c)) (w.freeze ⟨gb, cur.size, none⟩ 1) := by
      unfold isBytesT at ht
      split at ht
      · rename_i e' hu
        split at ht
        · rename_i hue
          simp [execOp, ho.eval hx, convert, run_underlying hu, run_underlying hue, markStringish, shape, Sem.run, World.shape?, h2, freeze, pure]
        · cases ht
      · cases ht
    simp only [Oper.wp, hrun, Oper.upon]
    refine hK _ _ k5 ⟨rfl, ?_⟩
    have := st.upd hj (r' := row e 1 (.slice (some ⟨gb, 0, none⟩) n c) vs) (hp' := (w.freeze ⟨gb, cur.size, none⟩ 1).heap) ⟨by rw [k3]; exact Nat.le_refl _, fun S' hS' => ?_⟩
    · rwa [List.set_getElem?_self' hj] at this
    · rcases hS' with ⟨hh, _⟩ | ⟨gb', n', cap, cur', fr2, hh, g2, g3, g4, g5, g6, g7, g8, gS⟩
      · cases hh
      · cases hh
        rw [h2] at g2
        cases g2
        refine ⟨S', .inr ⟨gb, n, c, cur, fr', rfl, k1, g3, g4, g5, g6, g7, k2, gS⟩, fun k hk => .inl hk, fun k _ hk => k4 k (fun e => hk ((gS k).2 e))⟩
end
section
variable {P : Program} {E : Env} {hp : Heap} {d : Option Tmp} {ty : TypeId} {pos : String} {af : Array Edge} {g : Option (Nat × Bool)}
variable {x : Operand} {t : TypeId}
/-- A literal of several elements of one cell. -/
theorem opl_lits {e bt len : Nat} {zv : Value} {parts : Array (Nat × Operand)} {ps : List (Nat × Value)} (cs : List Value) (hps : evP E parts.toList = some ps) (ht : sliceI P t = some (e, 1, bt, [zv]))
    (hn : Nat.ble (len * 1) 16777216 = true) (hs : Nat.blt 0 (len * 1) = true) (hc : sliceCells len 1 [zv] ps = some cs.toArray) (hl : cs.length = len * 1) :
    OpL P ⟨d, .buildSlice t len parts, ty, pos, af, g⟩ E hp (fun u hp' => New (row e 1 u cs) hp hp') := by
  intro n a w ho hw K hK
  refine opl_buildSlice hps ht hn hs hc n a w ho hw K fun v' w' hi ⟨h1, h2⟩ => hK v' w' hi ?_
  rw [h1, h2]
  have := Nat.le_of_ble_eq_true hn
  exact new_row hp e 1 len cs hl (by simp only [maxLen]; omega)
end
section
variable {P : Program} {E : Env} {hp : Heap} {cl : Cls} {d : Option Tmp} {ty : TypeId} {pos : String} {af : Array Edge} {g : Option (Nat × Bool)}
variable {x : Operand} {t : TypeId}
theorem op_com32 {m : Nat} (hx : ev E x = some (.int .u32 (m : Int))) (hm : m < 4294967296) : Op1 cl P ⟨d, .unOp .xor t x, ty, pos, af, g⟩ E hp (.int .u32 ((m ^^^ 4294967295 : Nat) : Int)) := by
  have h := op_com (cl := cl) (P := P) (hp := hp) (d := d) (ty := ty) (pos := pos) (af := af) (g := g) (t := t) hx
  have e : bitsOp .xor .u32 (if IntKind.u32.signed then -1 else IntKind.u32.max) (m : Int) = ((m ^^^ 4294967295 : Nat) : Int) := by
    have h2 := bitsOp_nat (k := .u32) .xor 4294967295 m (by decide) (by simp only [IntKind.bits]; omega)
    simp only at h2
    rw [Nat.xor_comm, wrap_in (two_bits .u32 rfl (Nat.xor_lt_two_pow (n := 32) (by omega) (by decide)))] at h2
    exact h2
  rwa [e] at h
end
section
variable {P : Program} {E : Env} {hp : Heap} {cl : Cls} {d : Option Tmp} {ty : TypeId} {pos : String} {af : Array Edge} {g : Option (Nat × Bool)}
variable {x : Operand} {t : TypeId}
/-- A struct or an array, put together. -/
theorem op_build {parts : Array (Nat × Operand)} {ps : List (Nat × Value)} {cs : Array Value} (hps : evP E parts.toList = some ps) (h : P.built t ps = some cs) : Op1 cl P ⟨d, .build t parts, ty, pos, af, g⟩ E hp (.agg cs) :=
  .of_pure fun n a ho w' => by
    have hp1 : (parts.map fun (i, x) => (i, a.eval x)).toList = ps := by
      rw [Array.toList_map]; exact ho.parts hps
    have := run_build (P := P) w' t (parts.map fun (i, x) => (i, a.eval x)) cs (by rw [hp1]; exact h)
    simp only [execOp, Sem.run_bind, this, Result.andThen_ok]; rfl
end
end Go.Bn
