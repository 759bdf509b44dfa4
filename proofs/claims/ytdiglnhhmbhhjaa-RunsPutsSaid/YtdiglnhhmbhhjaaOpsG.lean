/- An append to a literal of nothing: it only adds to memory. -/
import Derived.Test.YtdiglnhhmbhhjaaOps9
set_option linter.unusedVariables false
set_option linter.unusedSimpArgs false
namespace Go.Bn
open Go
section
variable {P : Program} {E : Env} {hp : Heap} {cl : Cls} {d : Option Tmp} {ty : TypeId} {pos : String} {af : Array Edge} {g : Option (Nat × Bool)}
variable {x y z : Operand} {t t' : TypeId}
theorem opl_append_lit {e sz b m c : Nat} {zs : List Value} {news : List Value} {A : Option Addr} {B gb : Nat} {h0 : Heap} {rs : List Res} (st : St B h0 hp rs) (j : Nat) (hj : rs[j]? = some (row e sz (.slice (some ⟨gb, 0, none⟩) 0 0) [])) (hn : Rd hp A news) (hl : news.length = m * sz)
    (h1 : ∀ u ∈ news, Value.one u = true) (hb : news.length * b ≤ 140737488355328) (hx : ev E x = some (.slice (some ⟨gb, 0, none⟩) 0 0)) (hy : ev E y = some (.slice A m c)) (ht : sliceI P t = some (e, sz, b, zs)) (hzs : Nat.beq zs.length sz = true) (hsz : Nat.blt 0 sz = true) (hb0 : Nat.blt 0 b = true)
    {ts : Array TypeId} (hts : ts = #[t, t]) :
    OpL P ⟨d, .call ⟨.builtin .append, #[x, y], ts⟩, ty, pos, af, g⟩ E hp (fun v' hp' => Ext hp hp' ∧ St B h0 hp' (rs.set j (row e sz v' news))) := by
  intro n a w ho hw K hK
  subst hw hts
  obtain ⟨S, hS, _⟩ := st.at_ hj
  have hsz' : 0 < sz := by simpa [Nat.blt_eq] using hsz
  have hb0' : 0 < b := by simpa [Nat.blt_eq] using hb0
  obtain ⟨v', w', hrun, hinv, hupd⟩ := run_append (ty := ty) (c := c) ht (Nat.eq_of_beq_eq_true hzs) hsz' hS hn hl h1 hb0' (by simpa using hb)
  have hrun' : (execOp a.eval ⟨d, .call ⟨.builtin .append, #[x, y], #[t, t]⟩, ty, pos, af, g⟩).run P w = .ok (.value v') w' := by
    simp [execOp, resolve, ho.eval hx, ho.eval hy, invoke, builtin, hrun]
  simp only [Oper.wp, hrun', Oper.upon]
  refine hK v' w' hinv ⟨?_, by have := st.upd hj hupd; simpa using this⟩
  obtain ⟨i, z', hu, hi, hz, hsi, hbi, hzc⟩ := sliceI_spec ht
  subst hsi
  by_cases hm : m = 0
  · subst hm
    have hne : news = [] := List.eq_nil_of_length_eq_zero (by simpa using hl)
    subst hne
    have h2 : (Builtin.append_ #[t, t] ty #[.slice (some ⟨gb, 0, none⟩) 0 0, .slice A 0 c]).run P w = .ok (.slice (some ⟨gb, 0, none⟩) 0 0) w := by
      cases A <;> simp [Builtin.append_, run_underlying hu, sizeOf, typeInfo, hi, Builtin.lenOf, Builtin.firstCells, storeCells, loadCells, loadCellsFrom]
    have h3 := hrun.symm.trans h2
    cases h3
    exact Ext.refl _
  · cases A with
    | none =>
      exfalso
      rcases hn with h | ⟨_, _, h, _⟩
      · subst h
        have := Nat.mul_pos (Nat.pos_of_ne_zero hm) hsz'
        simp at hl; omega
      · cases h
    | some aa =>
      have hcell := rd_cell hn rfl
      have q2 : m * i.bytes ≤ 140737488355328 := by
        have h3 : m ≤ news.length := by rw [hl]; exact Nat.le_mul_of_pos_right _ hsz'
        rw [hbi]
        exact Nat.le_trans (Nat.mul_le_mul_right _ h3) hb
      have q1 : m ≤ 140737488355328 := Nat.le_trans (Nat.le_mul_of_pos_right _ (by rw [hbi]; exact hb0')) q2
      have h2 := run_append_grow (P := P) w t ty e i z' hu hi hz ⟨gb, 0, none⟩ 0 0 [] (by simp) (fun j u hu => by simp at hu) aa m c news hl hcell (by omega) (by omega) (growslice_fits (by omega) (by simpa using q2))
      have h3 := hrun.symm.trans h2
      cases h3
      exact ext_push _ _
/-- A literal of nothing. -/
theorem opl_lit0p {e sz b : Nat} {zs : List Value} (ht : sliceI P t = some (e, sz, b, zs)) : OpL P ⟨d, .buildSlice t 0 #[], ty, pos, af, g⟩ E hp (fun u hp' => ∃ gb, u = .slice (some ⟨gb, 0, none⟩) 0 0 ∧ New (row e sz (.slice (some ⟨gb, 0, none⟩) 0 0) []) hp hp') := by
  intro n a w ho hw K hK
  subst hw
  obtain ⟨i, z, hu, hi, hz, hsz, _, hzc⟩ := sliceI_spec ht
  have hrun : (execOp a.eval ⟨d, .buildSlice t 0 #[], ty, pos, af, g⟩).run P w = .ok (.value (.slice (some ⟨w.heap.size, 0, none⟩) 0 0)) (w.alloc (.cells #[] e)) := by
    simp only [execOp, Instr.buildSlice, Sem.run_bind, run_underlying hu, Result.andThen_ok, sizeOf, typeInfo, program, Sem.run, hi, Sem.run_pure, Nat.zero_mul, if_true, List.map_toArray]
    simp [Instr.fill, run_newRow]
    exact congrArg (fun x => w.alloc (.cells x e)) (Array.ext (by simp) (fun i h1 _ => absurd h1 (by simp)))
  simp only [Oper.wp, hrun, Oper.upon]
  refine hK _ _ ⟨rfl, rfl, rfl⟩ ⟨w.heap.size, rfl, ?_⟩
  have := new_row w.heap e sz 0 [] (by simp) (by simp [maxLen])
  exact this
end
end Go.Bn
