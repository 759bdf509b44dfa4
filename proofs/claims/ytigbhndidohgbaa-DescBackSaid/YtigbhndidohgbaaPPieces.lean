/- Plain lemmas on pieces: lengths of two bytes, and data. -/
import Derived.Test.YtigbhndidohgbaaPField
set_option linter.unusedVariables false
set_option linter.unusedSimpArgs false
namespace Go.Bn
/-- The data of pieces, and the error's number. -/
def piecesF : Nat → List UInt8 → List UInt8 → List UInt8 × Int
  | 0, _, _ => ([], 2)
  | f + 1, l, out =>
    if l.length < 2 then ([], 2)
    else if l.length < 2 + leV (l.take 2) then ([], 2)
    else if leV (l.take 2) = 0 then (if 2 < l.length then ([], 3) else (out, 0))
    else piecesF f (l.drop (2 + leV (l.take 2))) (out ++ (l.drop 2).take (leV (l.take 2)))
def pieces (l : List UInt8) : List UInt8 × Int := piecesF (l.length + 1) l []
theorem piecesF_fuel : ∀ (f f' : Nat) (l out : List UInt8), l.length < f → l.length < f' → piecesF f l out = piecesF f' l out
  | 0, _, _, _, h, _ => by omega
  | _, 0, _, _, _, h => by omega
  | f + 1, f' + 1, l, out, h, h' => by
    simp only [piecesF]
    split
    · rfl
    · split
      · rfl
      · split
        · rfl
        · exact piecesF_fuel f f' _ _ (by rw [List.length_drop]; omega) (by rw [List.length_drop]; omega)
/-- One piece more. -/
theorem piecesF_step {m : Nat} {l out : List UInt8} {a n : Nat} (hl : l.length = m) (h2 : a + 2 ≤ m) (hn : leV ((l.drop a).take 2) = n) (hle : a + 2 + n ≤ m) (h0 : n ≠ 0) :
    piecesF (m - a + 1) (l.drop a) out = piecesF (m - (a + 2 + n) + 1) (l.drop (a + 2 + n)) (out ++ (l.drop (a + 2)).take n) := by
  rw [piecesF, hn, if_neg (by rw [List.length_drop]; omega), if_neg (by rw [List.length_drop]; omega), if_neg h0, List.drop_drop, List.drop_drop, ← Nat.add_assoc]
  exact piecesF_fuel _ _ _ _ (by rw [List.length_drop]; omega) (by rw [List.length_drop]; omega)
theorem piecesF_short {m : Nat} {l out : List UInt8} {a : Nat} (hl : l.length = m) (h2 : m < a + 2) (ha : a ≤ m) : piecesF (m - a + 1) (l.drop a) out = ([], 2) := by
  rw [piecesF, if_pos (by rw [List.length_drop]; omega)]
theorem piecesF_long {m : Nat} {l out : List UInt8} {a n : Nat} (hl : l.length = m) (h2 : a + 2 ≤ m) (hn : leV ((l.drop a).take 2) = n) (hle : m < a + 2 + n) : piecesF (m - a + 1) (l.drop a) out = ([], 2) := by
  rw [piecesF, hn, if_neg (by rw [List.length_drop]; omega), if_pos (by rw [List.length_drop]; omega)]
theorem piecesF_more {m : Nat} {l out : List UInt8} {a : Nat} (hl : l.length = m) (h2 : a + 2 < m) (hn : leV ((l.drop a).take 2) = 0) : piecesF (m - a + 1) (l.drop a) out = ([], 3) := by
  rw [piecesF, hn, if_neg (by rw [List.length_drop]; omega), if_neg (by rw [List.length_drop]; omega), if_pos rfl, if_pos (by rw [List.length_drop]; omega)]
theorem piecesF_done {m : Nat} {l out : List UInt8} {a : Nat} (hl : l.length = m) (h2 : a + 2 = m) (hn : leV ((l.drop a).take 2) = 0) : piecesF (m - a + 1) (l.drop a) out = (out, 0) := by
  rw [piecesF, hn, if_neg (by rw [List.length_drop]; omega), if_neg (by rw [List.length_drop]; omega), if_pos rfl, if_neg (by rw [List.length_drop]; omega)]
theorem leV2 {l : List UInt8} {a : Nat} (h : a + 2 ≤ l.length) : leV ((l.drop a).take 2) = l[a].toNat + 256 * l[a + 1].toNat := by
  rw [List.drop_eq_getElem_cons (by omega), List.take_succ_cons, List.drop_eq_getElem_cons (by omega), List.take_succ_cons]
  simp [leV]
end Go.Bn
