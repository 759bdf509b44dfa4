/- Plain: the parts of lengths, and what bits tell of them. -/
import Derived.Test.YtdiglnhhmbhhjaaPTakeS
import Derived.Test.YtdiglnhhmbhhjaaPCanon2
import Derived.Test.YtdiglnhhmbhhjaaPBits2
set_option linter.unusedVariables false
set_option linter.unusedSimpArgs false
namespace Go.Bn
/-- Of a part's number: how many bits are behind it, the least and the greatest Many, the length. -/
def rW (s : Nat) : Nat := if s = 16 then 2 else if s = 17 then 3 else if s = 18 then 7 else 0
def rL (s : Nat) : Nat := if s = 16 then 3 else if s = 17 then 3 else if s = 18 then 11 else 1
def rH (s : Nat) : Nat := if s = 16 then 6 else if s = 17 then 10 else if s = 18 then 138 else 1
def rV (l : List Nat) (s : Nat) : Nat := if s = 16 then l.getD (l.length - 1) 0 else if 16 < s then 0 else s
def rAdd (l : List Nat) (s m : Nat) : List Nat := l ++ List.replicate m (rV l s)
theorem rW_le (s : Nat) : rW s ≤ 7 := by unfold rW; split <;> (try split) <;> (try split) <;> omega
theorem rL_pos (s : Nat) : 1 ≤ rL s := by unfold rL; split <;> (try split) <;> (try split) <;> omega
theorem rL_num {s n : Nat} (h : n < 2 ^ rW s) : rL s + n ≤ rH s := by
  unfold rW at h; unfold rL rH
  split at h
  · simp_all; omega
  · split at h
    · simp_all; omega
    · split at h
      · simp_all; omega
      · simp_all
theorem rH_le (s : Nat) : rH s ≤ 138 := by unfold rH; split <;> (try split) <;> (try split) <;> omega
theorem rAdd_len (l : List Nat) (s m : Nat) : (rAdd l s m).length = l.length + m := by simp [rAdd]
noncomputable def goT (ls : List Nat) (bs : List Bool) (n : Nat) : Nat → Nat → List Nat → List Nat × Nat × Nat
  | 0, _, _ => ([], 0, 3)
  | f + 1, a, l => if n ≤ l.length then (l, a, 0) else if (takeC ls (bs.drop a)).2.2 ≠ 0 then ([], 0, (takeC ls (bs.drop a)).2.2) else
    if bs.length < a + (takeC ls (bs.drop a)).2.1 + rW (takeC ls (bs.drop a)).1 then ([], 0, 2) else if (takeC ls (bs.drop a)).1 = 16 ∧ l.length = 0 then ([], 0, 3) else
    if n < l.length + (rL (takeC ls (bs.drop a)).1 + numB bs (a + (takeC ls (bs.drop a)).2.1) (rW (takeC ls (bs.drop a)).1)) then ([], 0, 3) else
      goT ls bs n f (a + (takeC ls (bs.drop a)).2.1 + rW (takeC ls (bs.drop a)).1) (rAdd l (takeC ls (bs.drop a)).1 (rL (takeC ls (bs.drop a)).1 + numB bs (a + (takeC ls (bs.drop a)).2.1) (rW (takeC ls (bs.drop a)).1)))
/-- The lengths of the numbers' code, so far. -/
def lens19 (bs : List Bool) (a i : Nat) : List Nat := (List.range 19).map fun k => if k < i then numB bs (a + 4 * k) 4 else 0
theorem lens19_len (bs : List Bool) (a i : Nat) : (lens19 bs a i).length = 19 := by simp [lens19]
theorem lens19_zero (bs : List Bool) (a : Nat) : lens19 bs a 0 = List.replicate 19 0 := by
  refine List.ext_getElem (by simp [lens19]) fun i h1 h2 => ?_
  simp only [lens19, List.getElem_map, List.getElem_range, List.getElem_replicate]
  rw [if_neg (by omega)]
theorem lens19_set {bs : List Bool} {a i : Nat} (hi : i < 19) : (lens19 bs a i).set i (numB bs (a + 4 * i) 4) = lens19 bs a (i + 1) := by
  refine List.ext_getElem (by simp [lens19]) fun k h1 h2 => ?_
  rw [List.getElem_set]
  simp only [lens19, List.getElem_map, List.getElem_range]
  by_cases h : i = k
  · subst h; rw [if_pos rfl, if_pos (by omega)]
  · rw [if_neg h]
    by_cases h3 : k < i
    · rw [if_pos h3, if_pos (by omega)]
    · rw [if_neg h3, if_neg (by omega)]
/-- Why there is no table; 0: its head is fine. -/
def headE (bs : List Bool) (a : Nat) (ok : Bool) : Nat := if bs.length < a + 9 then 2 else if numB bs a 9 < 1 ∨ 320 < numB bs a 9 then 5 else if bs.length < a + 85 then 2 else if ok = true then 0 else 13
noncomputable def takeR (bs : List Bool) (a : Nat) (ok : Bool) : List Nat × Nat × Nat := if headE bs a ok ≠ 0 then ([], 0, headE bs a ok) else goT (lens19 bs (a + 9) 19) bs (numB bs a 9) 321 (a + 85) []
/-- What is taken has a code. -/
theorem takeC_sym {ls : List Nat} (hok : lensOK ls) {bs : List Bool} (h : (takeC ls bs).2.2 = 0) : ∃ hs : (takeC ls bs).1 < ls.length, ls[(takeC ls bs).1] ≠ 0 ∧ (takeC ls bs).2.1 = ls[(takeC ls bs).1] := by
  rw [takeC_S hok] at h ⊢
  unfold takeS at h ⊢
  cases hf : (qcodes ls).find? (matchQ bs) with
  | none =>
    exfalso
    simp only [hf] at h
    split at h <;> simp at h
  | some c =>
    obtain ⟨s, hs, h0, rfl⟩ := mem_qcodes.1 (List.mem_of_find?_eq_some hf)
    exact ⟨hs, h0, rfl⟩
theorem takeC_pos {ls : List Nat} (hok : lensOK ls) {bs : List Bool} (h : (takeC ls bs).2.2 = 0) : 1 ≤ (takeC ls bs).2.1 := by
  obtain ⟨hs, h0, e⟩ := takeC_sym hok h
  omega

/-! Parts of lengths. -/
def eqRun (x : Nat) : List Nat → Nat
  | [] => 0
  | y :: r => if y = x then eqRun x r + 1 else 0
theorem eqRun_le (x : Nat) : ∀ l : List Nat, eqRun x l ≤ l.length
  | [] => Nat.le_refl _
  | y :: r => by
    have := eqRun_le x r
    unfold eqRun; split <;> simp <;> omega
theorem eqRun_get (x : Nat) : ∀ (l : List Nat) (i : Nat), i < eqRun x l → l.getD i 0 = x
  | [], i, h => by simp [eqRun] at h
  | y :: r, i, h => by
    unfold eqRun at h
    split at h
    · rename_i he
      cases i with
      | zero => simpa using he
      | succ i => rw [List.getD_cons_succ]; exact eqRun_get x r i (by omega)
    · omega
theorem eqRun_end (x : Nat) : ∀ (l : List Nat), eqRun x l < l.length → l.getD (eqRun x l) 0 ≠ x
  | [], h => by simp [eqRun] at h
  | y :: r, h => by
    unfold eqRun at h ⊢
    by_cases he : y = x
    · rw [if_pos he] at h ⊢
      rw [List.getD_cons_succ]
      exact eqRun_end x r (by simpa using h)
    · rw [if_neg he]; simpa using he
theorem eqRun_take {x : Nat} : ∀ {l : List Nat} {m : Nat}, m ≤ eqRun x l → l.take m = List.replicate m x
  | [], m, h => by
    obtain rfl : m = 0 := by simpa [eqRun] using h
    rfl
  | y :: r, 0, h => rfl
  | y :: r, m + 1, h => by
    unfold eqRun at h
    split at h
    · rename_i he
      rw [List.take_succ_cons, List.replicate_succ, he, eqRun_take (x := x) (l := r) (m := m) (by omega)]
    · omega
/-- How often a length stands from a place on. -/
def runAt (l : List Nat) (at_ : Nat) : Nat := eqRun (l.getD at_ 0) (l.drop at_)
theorem runAt_pos {l : List Nat} {at_ : Nat} (h : at_ < l.length) : 1 ≤ runAt l at_ := by
  unfold runAt
  rw [List.drop_eq_getElem_cons h, getD_get h]
  unfold eqRun
  rw [if_pos rfl]; omega
theorem runAt_le (l : List Nat) (at_ : Nat) : runAt l at_ ≤ l.length - at_ := by
  have := eqRun_le (l.getD at_ 0) (l.drop at_)
  rwa [List.length_drop] at this
/-- The part at a place. -/
def partAt (l : List Nat) (at_ : Nat) : Nat × Nat :=
  if l.getD at_ 0 = 0 ∧ 11 ≤ runAt l at_ then (18, min (runAt l at_) 138) else if l.getD at_ 0 = 0 ∧ 3 ≤ runAt l at_ then (17, runAt l at_) else
  if 0 < at_ ∧ l.getD at_ 0 = l.getD (at_ - 1) 0 ∧ 3 ≤ runAt l at_ then (16, min (runAt l at_) 6) else (l.getD at_ 0, 1)
theorem partAt_many {l : List Nat} {at_ : Nat} (h : at_ < l.length) : 1 ≤ (partAt l at_).2 ∧ (partAt l at_).2 ≤ runAt l at_ := by
  have h1 := runAt_pos h
  unfold partAt
  split
  · simp only; omega
  · split
    · simp only; omega
    · split <;> simp only <;> omega
theorem partAt_fits {l : List Nat} {at_ : Nat} (hb : ∀ x ∈ l, x ≤ 15) (h : at_ < l.length) : (partAt l at_).1 < 19 ∧ rL (partAt l at_).1 ≤ (partAt l at_).2 ∧ (partAt l at_).2 ≤ rH (partAt l at_).1 ∧ ((partAt l at_).1 = 16 → 0 < at_) := by
  have hx := hb l[at_] (List.getElem_mem h)
  rw [← getD_get h] at hx
  unfold partAt
  split
  · exact ⟨by show 18 < 19; omega, by show 11 ≤ _; omega, by show _ ≤ 138; omega, fun k => by cases k⟩
  · split
    · exact ⟨by show 17 < 19; omega, by show 3 ≤ _; omega, by show _ ≤ 10; omega, fun k => by cases k⟩
    · split
      · exact ⟨by show 16 < 19; omega, by show 3 ≤ _; omega, by show _ ≤ 6; omega, fun _ => by omega⟩
      · refine ⟨by simp only; omega, ?_, ?_, fun k => by simp only at k; omega⟩
        · simp only; unfold rL; rw [if_neg (by omega), if_neg (by omega), if_neg (by omega)]; exact Nat.le_refl _
        · simp only; unfold rH; rw [if_neg (by omega), if_neg (by omega), if_neg (by omega)]; exact Nat.le_refl _
theorem partAt_add {l : List Nat} {at_ : Nat} (hb : ∀ x ∈ l, x ≤ 15) (h : at_ < l.length) : rAdd (l.take at_) (partAt l at_).1 (partAt l at_).2 = l.take (at_ + (partAt l at_).2) := by
  have hm := partAt_many h
  have hv : rV (l.take at_) (partAt l at_).1 = l.getD at_ 0 := by
    have hx := hb l[at_] (List.getElem_mem h)
    rw [← getD_get h] at hx
    unfold partAt
    split
    · rename_i hh; rw [hh.1]; rfl
    · split
      · rename_i hh; rw [hh.1]; rfl
      · split
        · rename_i hh
          unfold rV
          rw [if_pos rfl, List.length_take, Nat.min_eq_left (by omega), hh.2.1, List.getD, List.getElem?_take, if_pos (by omega)]; rfl
        · unfold rV
          rw [if_neg (by simp only; omega), if_neg (by simp only; omega)]
  unfold rAdd
  rw [hv, List.take_add]
  congr 1
  exact (eqRun_take hm.2).symm
/-- All parts, from a place on. -/
def partsF (l : List Nat) : Nat → Nat → List (Nat × Nat)
  | 0, _ => []
  | f + 1, at_ => if at_ < l.length then partAt l at_ :: partsF l f (at_ + (partAt l at_).2) else []
theorem partsF_fuel (l : List Nat) : ∀ (f g at_ : Nat), l.length ≤ at_ + f → l.length ≤ at_ + g → partsF l f at_ = partsF l g at_
  | 0, 0, _, _, _ => rfl
  | 0, g + 1, at_, h, _ => by rw [partsF, partsF, if_neg (by omega)]
  | f + 1, 0, at_, _, h => by rw [partsF, partsF, if_neg (by omega)]
  | f + 1, g + 1, at_, h1, h2 => by
    rw [partsF, partsF]
    by_cases h : at_ < l.length
    · have := partAt_many h
      rw [if_pos h, if_pos h, partsF_fuel l f g _ (by omega) (by omega)]
    · rw [if_neg h, if_neg h]
def partsL (l : List Nat) (at_ : Nat) : List (Nat × Nat) := partsF l (l.length - at_) at_
theorem partsL_end {l : List Nat} {at_ : Nat} (h : l.length ≤ at_) : partsL l at_ = [] := by
  unfold partsL
  rw [show l.length - at_ = 0 by omega]; rfl
theorem partsL_cons {l : List Nat} {at_ : Nat} (h : at_ < l.length) : partsL l at_ = partAt l at_ :: partsL l (at_ + (partAt l at_).2) := by
  unfold partsL
  have := partAt_many h
  rw [show l.length - at_ = (l.length - at_ - 1) + 1 by omega, partsF, if_pos h, partsF_fuel l (l.length - at_ - 1) (l.length - (at_ + (partAt l at_).2)) _ (by omega) (by omega)]
end Go.Bn
