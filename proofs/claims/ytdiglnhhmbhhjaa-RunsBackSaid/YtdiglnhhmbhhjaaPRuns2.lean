/- The bits of lengths' table; the end of a function with two ranges over functions. -/
import Derived.Test.YtdiglnhhmbhhjaaPRuns
import Derived.Test.YtdiglnhhmbhhjaaPMerge2
import Derived.Test.YtdiglnhhmbhhjaaRng
set_option linter.unusedVariables false
set_option linter.unusedSimpArgs false
namespace Go.Bn
/-- How often each number stands in parts. -/
def pcnt (s : List (Nat × Nat)) : List Nat := (List.range 19).map fun k => (s.map (·.1)).count k
theorem pcnt_len (s : List (Nat × Nat)) : (pcnt s).length = 19 := by simp [pcnt]
theorem pcnt_nil : pcnt [] = List.replicate 19 0 := by decide
theorem pcnt_get {s : List (Nat × Nat)} {x : Nat} (hx : x < 19) : (pcnt s)[x]? = some ((s.map (·.1)).count x) := by unfold pcnt; simp [hx]
theorem pcnt_set {s : List (Nat × Nat)} (x : Nat × Nat) : (pcnt s).set x.1 ((s.map (·.1)).count x.1 + 1) = pcnt (s ++ [x]) := by
  refine List.ext_getElem (by simp [pcnt]) fun i h1 h2 => ?_
  rw [List.getElem_set]
  by_cases h : x.1 = i
  · rw [if_pos h]
    simp only [pcnt, List.getElem_map, List.getElem_range]
    rw [List.map_append, List.count_append, h]; simp [h]
  · rw [if_neg h]
    simp only [pcnt, List.getElem_map, List.getElem_range]
    rw [List.map_append, List.count_append]
    have : ([x].map (·.1)).count i = 0 := by
      simp only [List.map_cons, List.map_nil]
      rw [List.count_singleton, beq_eq_false_iff_ne.2 h]; rfl
    rw [this, Nat.add_zero]
theorem pcnt_le (s : List (Nat × Nat)) : ∀ y ∈ pcnt s, y ≤ s.length := by
  intro y hy
  obtain ⟨k, _, rfl⟩ := List.mem_map.1 hy
  have := List.count_le_length (a := k) (l := s.map (·.1))
  rwa [List.length_map] at this
theorem partsF_mem {l : List Nat} (hb : ∀ x ∈ l, x ≤ 15) : ∀ f a, ∀ x ∈ partsF l f a, x.1 < 19 ∧ rL x.1 ≤ x.2 ∧ x.2 ≤ rH x.1
  | 0, _, x, h => by simp [partsF] at h
  | f + 1, a, x, h => by
    rw [partsF] at h
    split at h
    · rename_i ha
      rcases List.mem_cons.1 h with rfl | h
      · have := partAt_fits hb ha; exact ⟨this.1, this.2.1, this.2.2.1⟩
      · exact partsF_mem hb f _ x h
    · simp at h
theorem partsL_mem {l : List Nat} (hb : ∀ x ∈ l, x ≤ 15) : ∀ x ∈ partsL l 0, x.1 < 19 ∧ rL x.1 ≤ x.2 ∧ x.2 ≤ rH x.1 := partsF_mem hb _ _
noncomputable def plens (l : List Nat) : List Nat := lensW (pcnt (partsL l 0))
theorem plens_len (l : List Nat) : (plens l).length = 19 := by unfold plens; rw [lensW_length, pcnt_len]
/-- Each part's number has a code. -/
theorem plens_pos {l : List Nat} (hb : ∀ x ∈ l, x ≤ 15) {x : Nat × Nat} (hx : x ∈ partsL l 0) : (plens l).getD x.1 0 ≠ 0 := by
  have h19 := (partsL_mem hb x hx).1
  have hc : 0 < ((partsL l 0).map (·.1)).count x.1 := List.count_pos_iff.2 (List.mem_map_of_mem hx)
  have hw : wkey (pcnt (partsL l 0)) x.1 = ((partsL l 0).map (·.1)).count x.1 := by unfold wkey; rw [List.getD, pcnt_get h19]; rfl
  have hm : x.1 ∈ syms (pcnt (partsL l 0)) := mem_syms.2 ⟨by rw [pcnt_len]; exact h19, by rw [hw]; exact hc⟩
  unfold plens
  rw [lensW_get (by rw [pcnt_len]; exact h19)]
  have := lenW_pos (ws := pcnt (partsL l 0)) (by rw [pcnt_len]; decide) hm
  omega
theorem plens_ok {l : List Nat} (hb : ∀ x ∈ l, x ≤ 15) (h1 : 1 ≤ l.length) : lensOK (plens l) := by
  have hx : partAt l 0 ∈ partsL l 0 := by rw [partsL_cons (by omega)]; exact List.mem_cons_self
  have hs : 1 ≤ (syms (pcnt (partsL l 0))).length := by
    have h19 := (partsL_mem hb _ hx).1
    have hc : 0 < ((partsL l 0).map (·.1)).count (partAt l 0).1 := List.count_pos_iff.2 (List.mem_map_of_mem hx)
    have hw : wkey (pcnt (partsL l 0)) (partAt l 0).1 = ((partsL l 0).map (·.1)).count (partAt l 0).1 := by unfold wkey; rw [List.getD, pcnt_get h19]; rfl
    exact List.length_pos_of_mem (mem_syms.2 ⟨by rw [pcnt_len]; exact h19, by rw [hw]; exact hc⟩)
  refine ⟨by rw [plens_len]; decide, by rw [plens_len]; decide, lensW_le _, ?_⟩
  rcases Nat.lt_or_ge 1 (syms (pcnt (partsL l 0))).length with h | h
  · exact .inl (lensW_kraft h (by rw [pcnt_len]; decide))
  · exact .inr (lensW_one (by omega) (by rw [pcnt_len]; decide))
def partBits (lens : List Nat) (x : Nat × Nat) : List Bool := codeBits (val lens x.1) (lens.getD x.1 0) ++ bitsN (rW x.1) (x.2 - rL x.1)
theorem partBits_len {lens : List Nat} (h : lensOK lens) (x : Nat × Nat) : (partBits lens x).length ≤ 22 := by
  unfold partBits
  rw [List.length_append, codeBits_length, bitsN_length]
  have h1 := rW_le x.1
  have h2 : lens.getD x.1 0 ≤ 15 := by
    rcases Nat.lt_or_ge x.1 lens.length with h3 | h3
    · rw [getD_eq h3]; exact h.2.2.1 _ (List.getElem_mem h3)
    · simp [List.getD, h3]
  omega
theorem flat_bd {α : Type} (f : α → List Bool) (b : Nat) (hf : ∀ x, (f x).length ≤ b) : ∀ s : List α, (s.flatMap f).length ≤ s.length * b
  | [] => by simp
  | x :: s => by
    have := flat_bd f b hf s
    have := hf x
    rw [List.flatMap_cons, List.length_append, List.length_cons, Nat.add_mul]; omega
noncomputable def putHead (l : List Nat) (i : Nat) : List Bool := bitsN 9 l.length ++ ((plens l).take i).flatMap (bitsN 4)
noncomputable def putR (l : List Nat) : List Bool := putHead l 19 ++ (partsL l 0).flatMap (partBits (plens l))
theorem putHead_len (l : List Nat) (i : Nat) : (putHead l i).length ≤ 9 + 76 := by
  unfold putHead
  have := flat_bd (bitsN 4) 4 (fun x => by rw [bitsN_length]; exact Nat.le_refl _) ((plens l).take i)
  rw [List.length_take, plens_len] at this
  rw [List.length_append, bitsN_length]
  omega
theorem putHead_succ {l : List Nat} {i : Nat} (hi : i < 19) : putHead l (i + 1) = putHead l i ++ bitsN 4 ((plens l).getD i 0) := by
  unfold putHead
  rw [take_snoc (by rw [plens_len]; exact hi), List.flatMap_append, List.append_assoc]; simp
end Go.Bn
set_option linter.unusedVariables false
set_option linter.unusedSimpArgs false
namespace Go.Bn
open Go
section
variable {c : Cx} {k : List SItem} {E : Env} {hp : Heap}
theorem post_mark2 {vs : List Value} {a : Act} {w : World} {D : List Deferred} {d e : Nat} (hD : D = [mark d, mark e]) (hd : hp[d]? = some (.deferred (some []))) (he : (shutH hp d)[e]? = some (.deferred (some []))) (h : RVs c.P (shutH (shutH hp d) e) E c.fn.results.toList vs) (hΦ : c.Φ (retVal vs) (shutH (shutH hp d) e)) (ho : OK c.fn.ntmps E a) (hi : Inv c.w0 w) (hw : w.heap = hp) :
    LeavesInM Fence.wide 0 c.P c.fn a.tmps c.R D .returning w := by
  subst hD
  have hh1 : (w.putObj d (.deferred none)).heap = shutH hp d := by rw [← hw]; rfl
  have ht : (Instr.takeDeferred d).run c.P w = .ok [] (w.putObj d (.deferred none)) := run_takeDeferred (by rw [hw]; exact hd)
  have ht2 : (Instr.takeDeferred e).run c.P (w.putObj d (.deferred none)) = .ok [] ((w.putObj d (.deferred none)).putObj e (.deferred none)) := run_takeDeferred (by rw [hh1]; exact he)
  refine ⟨by simp, .inl ⟨d, w.putObj d (.deferred none), rfl, ht, ?_⟩⟩
  refine ⟨by simp, .inl ⟨e, (w.putObj d (.deferred none)).putObj e (.deferred none), rfl, ht2, ?_⟩⟩
  have hh : ((w.putObj d (.deferred none)).putObj e (.deferred none)).heap = shutH (shutH hp d) e := by rw [← hw]; rfl
  exact ⟨retVal vs, results_run ho hh h, retVal vs, rfl, ⟨hi.os, hi.tape, hi.output⟩, by rw [hh]; exact hΦ⟩
attribute [local semireducible] X in
theorem X_retM2 {vs : List Value} {d e : Nat} (h : RVs c.P (shutH (shutH hp d) e) E c.fn.results.toList vs) (hΦ : c.Φ (retVal vs) (shutH (shutH hp d) e)) (hd : hp[d]? = some (.deferred (some []))) (he : (shutH hp d)[e]? = some (.deferred (some []))) (hB : c.B = bodyPostM Fence.wide 0 c.P c.fn c.R := by rfl) (hD : c.D = [mark d, mark e] := by rfl) : X c (.code .ret :: k) E hp := fun a w ho hi hw => by
  refine wpIn_ret (SQ_ret ?_ k)
  rw [hB]
  exact post_mark2 (ho.2.trans hD) hd he h hΦ ho.1 hi hw
end
end Go.Bn
