/- The engine, part 4: calls, slicing, append, copy, structs as values. -/
import Derived.Test.YtpkhilbgkkjebaaOps2
namespace Go.Bn
open Go
section
variable {P : Program} {E : Env} {hp : Heap} {cl : Cls} {d : Option Tmp} {ty : TypeId} {pos : String} {af : Array Edge} {g : Option (Nat × Bool)}
variable {x y : Operand} {t t' : TypeId}

/-! A call of a Go function. -/
def callOk (P : Program) (f : FuncId) : Bool :=
  match P.funcs[f]? with
  | some fn => !(fn.name == "runtime.NumGoroutine") && fn.body.isSome
  | none => false
theorem opl_call {f : FuncId} {args : Array Operand} {ts : Array TypeId} {vs : List Value} {Φ : Value → Heap → Prop} (h : Ret P f vs hp Φ) (hargs : evs E args.toList = some vs) (hc : callOk P f = true) :
    OpL P ⟨d, .call ⟨.value (.func f), args, ts⟩, ty, pos, af, g⟩ E hp Φ := by
  intro n a w ho hw K hK
  unfold callOk at hc
  split at hc
  · rename_i fn hfn
    simp only [Bool.and_eq_true, Bool.not_eq_true'] at hc
    obtain ⟨hn, hb⟩ := hc
    have hn' : ¬ (fn.name = "runtime.NumGoroutine") := by simpa using hn
    have hb' : ¬ (fn.body = none) := by intro h; rw [h] at hb; cases hb
    have ha : args.map a.eval = vs.toArray := by
      apply Array.toList_inj.1
      rw [Array.toList_map, ho.evals hargs]
    have hrun : (execOp a.eval ⟨d, .call ⟨.value (.func f), args, ts⟩, ty, pos, af, g⟩).run P w = .ok (.enter f vs.toArray) w := by
      simp [execOp, resolve, Act.eval, Deferred.ofValue, invoke, callFunc, hfn, hn', hb', ha]
    simp only [Oper.wp, hrun, Oper.upon]
    refine (h w hw).mono ?_
    rintro e w' ⟨v, rfl, hi, hΦ⟩
    exact hK v w' hi hΦ
  · cases hc

/-! Slicing. -/
theorem addr_add' (b o n : Nat) : (⟨b, o, none⟩ : Addr).add n = ⟨b, o + n, none⟩ := addr_add b o n
/-- Where x[l:h] begins. -/
def cutA (A : Option Addr) (l sz m : Nat) : Option Addr := if m = l then A else A.map fun a => a.add (l * sz)
theorem Rd.cut {A : Option Addr} {vs : List Value} (h : Rd hp A vs) (l sz m n : Nat) (hm : m = l → vs.length ≤ l * sz) : Rd hp (cutA A l sz m) ((vs.drop (l * sz)).take n) := by
  refine Rd.take ?_ n
  unfold cutA
  split
  · rename_i he
    rw [List.drop_eq_nil_of_le (hm he)]; exact .inl rfl
  · rcases h with rfl | ⟨b, o, hA, hc⟩
    · exact .inl (by simp)
    · refine .inr ⟨b, o + l * sz, by rw [hA]; simp [addr_add], fun i u hu => ?_⟩
      rw [List.getElem?_drop] at hu
      rw [Nat.add_assoc]; exact hc _ u hu
theorem run_slice {e sz l h n c : Nat} {A : Option Addr} {i : TypeInfo} {lo hi : Option Value} (hu : P.underlying t = some (.slice e)) (hi' : P.info? e = some i) (hs : i.size = sz)
    (hlo : (lo = none ∧ l = 0) ∨ ∃ k, lo = some (.int k (l : Int))) (hhi : (hi = none ∧ h = n) ∨ ∃ k, hi = some (.int k (h : Int))) (hlh : l ≤ h) (hhc : h ≤ c) (w : World) :
    (Instr.sliceAt t (.slice A n c) lo hi none).run P w = .ok (.slice (cutA A l sz c) (h - l) (c - l)) w := by
  have hlc : (l : Int) ≤ (h : Int) := by omega
  have hhc' : (h : Int) ≤ (c : Int) := by omega
  have e1 : (Instr.sliceAt t (.slice A n c) lo hi none).run P w = (Instr.slice t (.slice A n c) lo hi none).run P w := by
    simp [Instr.sliceAt, run_underlying hu]
  rw [e1]
  rcases hlo with ⟨rfl, rfl⟩ | ⟨k, rfl⟩ <;> rcases hhi with ⟨rfl, rfl⟩ | ⟨k', rfl⟩ <;>
    simp [Instr.slice, run_underlying hu, Instr.sliceBounds, Instr.sliceBound, asIntOf, sizeOf, typeInfo, hi', hs, cutA, hlh, hhc]
/-- x[l:h] -/
theorem op_slice {lo hi : Operand} {sz l h n c : Nat} {k k' : IntKind} {A : Option Addr} (hx : ev E x = some (.slice A n c)) (hlo : ev E lo = some (.int k (l : Int))) (hhi : ev E hi = some (.int k' (h : Int))) (ht : sliceEl P t = some sz)
    (hlh : l ≤ h) (hhc : h ≤ c) : Op1 cl P ⟨d, .slice t x (some lo) (some hi) none, ty, pos, af, g⟩ E hp (.slice (cutA A l sz c) (h - l) (c - l)) :=
  .of_pure fun _ a ho w' => by
    obtain ⟨e, i, hu, hi', hs⟩ := sliceEl_spec ht
    have := run_slice (A := A) (n := n) hu hi' hs (.inr ⟨k, rfl⟩ : ((some (.int k (l : Int)) : Option Value) = none ∧ l = 0) ∨ _) (.inr ⟨k', rfl⟩ : ((some (.int k' (h : Int)) : Option Value) = none ∧ h = n) ∨ _) hlh hhc w'
    simp [execOp, ho.eval hx, ho.eval hlo, ho.eval hhi, this]
/-- x[l:] -/
theorem op_slice_l {lo : Operand} {sz l n c : Nat} {k : IntKind} {A : Option Addr} (hx : ev E x = some (.slice A n c)) (hlo : ev E lo = some (.int k (l : Int))) (ht : sliceEl P t = some sz)
    (hlh : l ≤ n) (hhc : n ≤ c) : Op1 cl P ⟨d, .slice t x (some lo) none none, ty, pos, af, g⟩ E hp (.slice (cutA A l sz c) (n - l) (c - l)) :=
  .of_pure fun _ a ho w' => by
    obtain ⟨e, i, hu, hi', hs⟩ := sliceEl_spec ht
    have := run_slice (A := A) (n := n) hu hi' hs (.inr ⟨k, rfl⟩ : ((some (.int k (l : Int)) : Option Value) = none ∧ l = 0) ∨ _) (.inl ⟨rfl, rfl⟩) hlh hhc w'
    simp [execOp, ho.eval hx, ho.eval hlo, this]
/-- x[:h] -/
theorem op_slice_h {hi : Operand} {sz h n c : Nat} {k : IntKind} {A : Option Addr} (hx : ev E x = some (.slice A n c)) (hhi : ev E hi = some (.int k (h : Int))) (ht : sliceEl P t = some sz)
    (hhc : h ≤ c) : Op1 cl P ⟨d, .slice t x none (some hi) none, ty, pos, af, g⟩ E hp (.slice (cutA A 0 sz c) h c) :=
  .of_pure fun _ a ho w' => by
    obtain ⟨e, i, hu, hi', hs⟩ := sliceEl_spec ht
    have := run_slice (A := A) (n := n) hu hi' hs (.inl ⟨rfl, rfl⟩) (.inr ⟨k, rfl⟩ : ((some (.int k (h : Int)) : Option Value) = none ∧ h = n) ∨ _) (Nat.zero_le _) hhc w'
    simp [execOp, ho.eval hx, ho.eval hhi, this]
theorem cutA_zero (A : Option Addr) (sz m : Nat) : cutA A 0 sz m = A := by
  unfold cutA
  split
  · rfl
  · cases A <;> simp [Addr.add]

/-! append onto a slice of one's own. -/
theorem one_oneCell {v : Value} (h : Value.one v = true) : v.oneCell' = true := by cases v <;> first | rfl | (cases h; done)
theorem rd_cell {A : Option Addr} {vs : List Value} {a : Addr} {w : World} (h : Rd w.heap A vs) (hA : A = some a) : ∀ (j : Nat) (u : Value), vs[j]? = some u → w.cell? (a.add j) = some u := by
  intro j u hu
  rcases h with rfl | ⟨b, o, hA', hc⟩
  · simp at hu
  · rw [hA] at hA'; cases hA'
    rw [addr_add]; exact hc j u hu
theorem grown_spec (w : World) (need old : Nat) (e : TypeId) : need ≤ grownCap w need old e := grownCap_ge w need old e
theorem zeroCells_size (z : Array Value) (n : Nat) : (Builtin.zeroCells z n).size = n * z.size := by simp [Builtin.zeroCells]

theorem run_append {e sz b m c : Nat} {zs : List Value} {v : Value} {vs news : List Value} {A : Option Addr} {S : Nat → Prop} {w : World} (ht : sliceI P t = some (e, sz, b, zs)) (hzs : zs.length = sz) (hsz : 0 < sz) (hr : RowAt e sz v vs w.heap S)
    (hn : Rd w.heap A news) (hl : news.length = m * sz) (h1 : ∀ u ∈ news, Value.one u = true) (hb0 : 0 < b) (hb : (vs.length + news.length) * b ≤ 140737488355328) :
    ∃ v' w', (Builtin.append_ #[t, t] ty #[v, .slice A m c]).run P w = .ok v' w' ∧ Inv w w' ∧ Upd (row e sz v vs) w.heap (row e sz v' (vs ++ news)) w'.heap := by
  obtain ⟨i, z, hu, hi, hz, hs, hbz, hzc⟩ := sliceI_spec ht
  subst hs hbz
  have hzs' : z.cells.size = i.size := by rw [hzc]; simpa using hzs
  have hlen : vs.length + news.length ≤ 140737488355328 := Nat.le_trans (Nat.le_mul_of_pos_right _ hb0) hb
  -- A row that is new.
  have fresh : ∀ (n old : Nat), vs.length = n * i.size → n + m ≠ 0 → (∀ S, RowAt e i.size v vs w.heap S → ∀ k, S k → k < w.heap.size) →
      Upd (row e i.size v vs) w.heap (row e i.size (.slice (some ⟨w.heap.size, 0, none⟩) (n + m) (grownCap w (n + m) old e)) (vs ++ news))
        (w.heap.push (.cells (vs.toArray ++ news.toArray ++ Builtin.zeroCells z.cells (grownCap w (n + m) old e - (n + m))) e)) := by
    intro n old hvn h0 _
    have hge := grownCap_ge w (n + m) old e
    have hnm : n + m ≤ maxLen := by
      have : (n + m) * i.size ≤ 140737488355328 := by rw [Nat.add_mul, ← hvn, ← hl]; exact hlen
      have := Nat.le_trans (Nat.le_mul_of_pos_right (n + m) hsz) this
      simp only [maxLen]; omega
    have hcm := grownCap_le_maxLen w (n + m) old e hnm
    refine ⟨(ext_push _ _).size, fun S hS => ⟨fun k => k = w.heap.size, .inr ⟨w.heap.size, n + m, _, _, (0, 0), rfl, push_at _ _, hge, hcm, ?_, ?_, ?_, ?_, fun _ => Iff.rfl⟩, fun k hk => .inr (by omega), fun k hk _ => (ext_push _ _).blk k hk⟩⟩
    · simp only [Array.size_append, List.size_toArray, zeroCells_size, hzs', hvn, hl, ← Nat.add_mul]
      congr 1; omega
    · simp only [Array.toList_append, List.append_assoc]
      rw [← List.append_assoc, Nat.add_mul, ← hvn, ← hl, ← List.length_append]
      exact List.take_left
    · rw [List.length_append, hvn, hl, Nat.add_mul]
    · exact .inl rfl
  have b63 : ∀ n, vs.length = n * i.size → n + m ≤ 140737488355328 ∧ (n + m) * i.bytes ≤ 140737488355328 := by
    intro n hvn
    have h2 : (n + m) * i.size ≤ vs.length + news.length := by rw [Nat.add_mul, ← hvn, ← hl]; exact Nat.le_refl _
    have h3 : n + m ≤ vs.length + news.length := Nat.le_trans (Nat.le_mul_of_pos_right _ hsz) h2
    exact ⟨by omega, Nat.le_trans (Nat.mul_le_mul_right _ h3) hb⟩
  have hlt : ∀ S, RowAt e i.size v vs w.heap S → ∀ k, S k → k < w.heap.size := fun S hS k hk => (row e i.size v vs).lt hS k hk
  -- What is added has no address only where it is empty.
  cases A with
  | none =>
    have hne : news = [] := by
      rcases hn with h | ⟨_, _, h, _⟩
      · exact h
      · cases h
    subst hne
    have hm : m = 0 := by
      rcases Nat.eq_zero_or_pos m with h | h
      · exact h
      · have := Nat.mul_pos h hsz; simp at hl; omega
    subst hm
    refine ⟨v, w, ?_, Inv.refl w, Nat.le_refl _, fun S hS => ⟨S, by simpa using hS, fun k hk => .inl hk, fun _ _ _ => rfl⟩⟩
    rcases hr with ⟨rfl, rfl, _⟩ | ⟨g, n, cap, cur, fr, rfl, h2, h3, h4, h5, h6, h7, h8, hS⟩
    · simp [Builtin.append_, run_underlying hu, sizeOf, typeInfo, hi, Builtin.lenOf, Builtin.firstCells]
    · simp [Builtin.append_, run_underlying hu, sizeOf, typeInfo, hi, Builtin.lenOf, Builtin.firstCells, h3, storeCells]
  | some a =>
    have hcell := rd_cell hn rfl
    rcases hr with ⟨rfl, rfl, hS0⟩ | ⟨g, n, cap, cur, fr, rfl, h2, h3, h4, h5, h6, h7, h8, hS⟩
    · by_cases hm : m = 0
      · subst hm
        have hne : news = [] := List.eq_nil_of_length_eq_zero (by simpa using hl)
        subst hne
        refine ⟨.slice none 0 0, w, ?_, Inv.refl w, Nat.le_refl _, fun S hS => ⟨S, by simpa using hS, fun k hk => .inl hk, fun _ _ _ => rfl⟩⟩
        simp [Builtin.append_, run_underlying hu, sizeOf, typeInfo, hi, Builtin.lenOf, Builtin.firstCells, loadCells, loadCellsFrom]
      · obtain ⟨q1, q2⟩ := b63 0 (by simp)
        have hrun := run_append_nil (P := P) w t ty e i z hu hi hz a m c news hl hcell (by omega) (by omega) (by simp at q2; omega)
        have hf := fresh 0 0 (by simp) (by omega) hlt
        simp only [Nat.zero_add, List.nil_append, Array.empty_append] at hf
        exact ⟨_, _, hrun, ⟨rfl, rfl, rfl⟩, hf⟩
    · by_cases hroom : n + m ≤ cap
      · have hfit : n * i.size + news.length ≤ cur.size := by rw [hl, h5, ← Nat.add_mul]; exact Nat.mul_le_mul_right _ hroom
        obtain ⟨w', hst, hinv, hsz', hoth, hnew⟩ := run_storeCells (P := P) (p := g) (o := n * i.size) (e := e) (fr := fr) news 0 cur w h1 h2 (by simpa using hfit) h8
        have hfc := run_firstCells_some (P := P) w i.size m a m c news hl hcell
        refine ⟨.slice (some ⟨g, 0, none⟩) (n + m) cap, w', ?_, hinv, by rw [hsz']; exact Nat.le_refl _, fun S' hS' => ?_⟩
        · simp [Builtin.append_, run_underlying hu, sizeOf, typeInfo, hi, Builtin.lenOf, hroom, hfc, addr_add, hst]
        · have hSg : ∀ k, S' k ↔ k = g := by
            rcases hS' with ⟨hh, _⟩ | ⟨g', n', cap', cur', fr', hh, _, _, _, _, _, _, _, hS''⟩
            · cases hh
            · cases hh; exact hS''
          simp only [Nat.add_zero] at hnew
          refine ⟨S', .inr ⟨g, n + m, cap, _, fr, rfl, hnew, hroom, h4, ?_, ?_, ?_, ?_, hSg⟩, fun k hk => .inl hk, fun k _ hk => hoth k (fun h => hk ((hSg k).2 h))⟩
          · simp only [List.size_toArray, List.length_append, List.length_take, List.length_drop, Array.length_toList]
            omega
          · rw [h6, Nat.add_mul, ← h7, ← hl, ← List.length_append]
            exact List.take_left
          · rw [List.length_append, h7, hl, Nat.add_mul]
          · have : ((cur.toList.take (n * i.size) ++ news ++ cur.toList.drop (n * i.size + news.length)).toArray).size = cur.size := by
              simp only [List.size_toArray, List.length_append, List.length_take, List.length_drop, Array.length_toList]
              omega
            rw [this]; exact h8
      · obtain ⟨q1, q2⟩ := b63 n h7
        have holds : ∀ (j : Nat) (u : Value), vs[j]? = some u → w.cell? ((⟨g, 0, none⟩ : Addr).add j) = some u := by
          intro j u hu'
          rw [addr_add, cell_world]
          simp only [cellH, h2, Nat.zero_add]
          rw [← h6, List.getElem?_take] at hu'
          split at hu'
          · simpa using hu'
          · cases hu'
        have hrun := run_append_grow (P := P) w t ty e i z hu hi hz ⟨g, 0, none⟩ n cap vs h7 holds a m c news hl hcell (by omega) (by omega) (growslice_fits (by omega) q2)
        exact ⟨_, _, hrun, ⟨rfl, rfl, rfl⟩, fresh n cap h7 (by omega) hlt⟩

theorem opl_append {e sz b m c : Nat} {zs : List Value} {v : Value} {vs news : List Value} {A : Option Addr} {B : Nat} {h0 : Heap} {rs : List Res} (st : St B h0 hp rs) (j : Nat) (hj : rs[j]? = some (row e sz v vs)) (hn : Rd hp A news) (hl : news.length = m * sz)
    (h1 : ∀ u ∈ news, Value.one u = true) (hb : (vs.length + news.length) * b ≤ 140737488355328) (hx : ev E x = some v) (hy : ev E y = some (.slice A m c)) (ht : sliceI P t = some (e, sz, b, zs)) (hzs : Nat.beq zs.length sz = true) (hsz : Nat.blt 0 sz = true) (hb0 : Nat.blt 0 b = true)
    {ts : Array TypeId} (hts : ts = #[t, t]) :
    OpL P ⟨d, .call ⟨.builtin .append, #[x, y], ts⟩, ty, pos, af, g⟩ E hp (fun v' hp' => St B h0 hp' (rs.set j (row e sz v' (vs ++ news)))) := by
  intro n a w ho hw K hK
  subst hw hts
  obtain ⟨S, hS, _⟩ := st.at_ hj
  obtain ⟨v', w', hrun, hinv, hupd⟩ := run_append (ty := ty) (c := c) ht (Nat.eq_of_beq_eq_true hzs) (by simpa [Nat.blt_eq] using hsz) hS hn hl h1 (by simpa [Nat.blt_eq] using hb0) hb
  have hrun' : (execOp a.eval ⟨d, .call ⟨.builtin .append, #[x, y], #[t, t]⟩, ty, pos, af, g⟩).run P w = .ok (.value v') w' := by
    simp [execOp, resolve, ho.eval hx, ho.eval hy, invoke, builtin, hrun]
  simp only [Oper.wp, hrun', Oper.upon]
  exact hK v' w' hinv (st.upd hj hupd)
end
end Go.Bn
