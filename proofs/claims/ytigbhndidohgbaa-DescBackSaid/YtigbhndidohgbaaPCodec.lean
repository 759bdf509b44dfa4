/- Plain: the pieces of bytes, and streams. -/
import Derived.Test.YtigbhndidohgbaaPPieces
set_option linter.unusedVariables false
set_option linter.unusedSimpArgs false
namespace Go.Bn
def chunkF : Nat → List UInt8 → List (List UInt8)
  | 0, _ => []
  | f + 1, l => if l = [] then [] else l.take 65535 :: chunkF f (l.drop 65535)
/-- Bytes, cut. -/
def chunks (l : List UInt8) : List (List UInt8) := chunkF l.length l
theorem chunkF_fuel : ∀ (f f' : Nat) (l : List UInt8), l.length ≤ f → l.length ≤ f' → chunkF f l = chunkF f' l
  | 0, f', l, h, _ => by
    obtain rfl : l = [] := List.eq_nil_of_length_eq_zero (by omega)
    cases f' with
    | zero => rfl
    | succ f' => simp [chunkF]
  | f + 1, 0, l, _, h => by
    obtain rfl : l = [] := List.eq_nil_of_length_eq_zero (by omega)
    simp [chunkF]
  | f + 1, f' + 1, l, h, h' => by
    simp only [chunkF]
    split
    · rfl
    · rename_i hl
      have : 0 < l.length := List.length_pos_iff.2 hl
      rw [chunkF_fuel f f' _ (by rw [List.length_drop]; omega) (by rw [List.length_drop]; omega)]
theorem chunks_nil : chunks [] = [] := rfl
theorem chunks_cons {l : List UInt8} (h : 0 < l.length) : chunks l = l.take 65535 :: chunks (l.drop 65535) := by
  unfold chunks
  cases l with
  | nil => simp at h
  | cons a r =>
    rw [List.length_cons, chunkF, if_neg (by simp)]
    congr 1
    exact chunkF_fuel _ _ _ (by simp) (by simp)

theorem chunks_ok : ∀ (n : Nat) (l : List UInt8), l.length ≤ n → (chunks l).flatten = l ∧ ∀ x ∈ chunks l, 0 < x.length ∧ x.length ≤ 65535
  | 0, l, h => by
    obtain rfl : l = [] := List.eq_nil_of_length_eq_zero (by omega)
    exact ⟨rfl, by simp [chunks_nil]⟩
  | n + 1, l, h => by
    rcases Nat.eq_zero_or_pos l.length with h0 | h0
    · obtain rfl : l = [] := List.eq_nil_of_length_eq_zero h0
      exact ⟨rfl, by simp [chunks_nil]⟩
    · obtain ⟨h1, h2⟩ := chunks_ok n (l.drop 65535) (by rw [List.length_drop]; omega)
      rw [chunks_cons h0]
      refine ⟨by rw [List.flatten_cons, h1, List.take_append_drop], fun x hx => ?_⟩
      rcases List.mem_cons.1 hx with rfl | hx
      · rw [List.length_take]; omega
      · exact h2 x hx
/-- The pieces of chunks. -/
def pieceS (s : List (List UInt8)) : List UInt8 := s.flatMap fun x => leB 2 x.length ++ x
def pieceB (l : List UInt8) : List UInt8 := pieceS (chunks l)
theorem pieceS_snoc (s : List (List UInt8)) (x : List UInt8) : pieceS (s ++ [x]) = pieceS s ++ leB 2 x.length ++ x := by simp [pieceS]
theorem pieceS_len : ∀ (s : List (List UInt8)), (pieceS s).length = 2 * s.length + s.flatten.length
  | [] => rfl
  | x :: r => by
    have ih := pieceS_len r
    simp only [pieceS, List.flatMap_cons, List.length_append, leB_length, List.length_cons, List.flatten_cons] at ih ⊢
    omega
theorem pieceS_append (s t : List (List UInt8)) : pieceS (s ++ t) = pieceS s ++ pieceS t := by simp [pieceS]
def chunksL (ls : List (List UInt8)) : List (List UInt8) := ls.flatMap chunks
theorem chunksL_ok : ∀ (ls : List (List UInt8)), (chunksL ls).flatten = ls.flatten ∧ ∀ x ∈ chunksL ls, 0 < x.length ∧ x.length ≤ 65535
  | [] => ⟨rfl, by simp [chunksL]⟩
  | l :: r => by
    obtain ⟨h1, h2⟩ := chunksL_ok r
    obtain ⟨k1, k2⟩ := chunks_ok l.length l (Nat.le_refl _)
    have e : chunksL (l :: r) = chunks l ++ chunksL r := by simp [chunksL]
    rw [e]
    refine ⟨by rw [List.flatten_append, k1, h1, List.flatten_cons], fun x hx => ?_⟩
    rcases List.mem_append.1 hx with hx | hx
    · exact k2 x hx
    · exact h2 x hx
theorem flatten_len_ge : ∀ {s : List (List UInt8)}, (∀ x ∈ s, 0 < x.length) → s.length ≤ s.flatten.length
  | [], _ => by simp
  | x :: r, h => by
    have ih := flatten_len_ge (s := r) fun y hy => h y (List.mem_cons_of_mem _ hy)
    have := h x List.mem_cons_self
    simp only [List.length_cons, List.flatten_cons, List.length_append]; omega
/-- A streamed payload. -/
def streamB (ls : List (List UInt8)) : List UInt8 := pieceS (chunksL ls) ++ leB 2 0
def streamN : List (List UInt8) → Nat → List UInt8 → List UInt8 × Int
  | [], _, out => (out ++ leB 2 0, 0)
  | b :: r, n, out => if 65536 < n + b.length then ([], 5) else streamN r (n + b.length) (out ++ pieceB b)
theorem streamN_ok : ∀ (ls : List (List UInt8)) (n : Nat) (out : List UInt8), n + ls.flatten.length ≤ 65536 → streamN ls n out = (out ++ streamB ls, 0)
  | [], n, out, _ => by simp [streamN, streamB, chunksL, pieceS]
  | b :: r, n, out, h => by
    simp only [List.flatten_cons, List.length_append] at h
    rw [streamN, if_neg (by omega), streamN_ok r _ _ (by omega)]
    simp [streamB, chunksL, pieceS_append, pieceB]
theorem streamB_len (ls : List (List UInt8)) : (streamB ls).length ≤ 3 * ls.flatten.length + 2 := by
  obtain ⟨h1, h2⟩ := chunksL_ok ls
  have h3 := flatten_len_ge (s := chunksL ls) fun x hx => (h2 x hx).1
  rw [h1] at h3
  simp only [streamB, List.length_append, pieceS_len, h1, leB_length]; omega
theorem pieces_head {x z : List UInt8} (h : x.length < 65536) : leV ((leB 2 x.length ++ x ++ z).take 2) = x.length ∧ (leB 2 x.length ++ x ++ z).drop (2 + x.length) = z ∧ ((leB 2 x.length ++ x ++ z).drop 2).take x.length = x := by
  have h2 : (leB 2 x.length).length = 2 := leB_length _ _
  refine ⟨?_, ?_, ?_⟩
  · rw [List.append_assoc, List.take_left' h2, leV_leB]; exact Nat.mod_eq_of_lt h
  · rw [List.drop_left' (by rw [List.length_append, h2])]
  · rw [List.append_assoc, List.drop_left' h2, List.take_left' rfl]
theorem pieces_S : ∀ (s : List (List UInt8)), (∀ x ∈ s, 0 < x.length ∧ x.length ≤ 65535) → ∀ (out : List UInt8) (f : Nat), (pieceS s ++ leB 2 0).length < f → piecesF f (pieceS s ++ leB 2 0) out = (out ++ s.flatten, 0)
  | [], _, out, 0, h => by omega
  | [], _, out, f + 1, _ => by
    have e : pieceS [] ++ leB 2 0 = [0, 0] := rfl
    rw [e]; simp [piecesF, leV]
  | x :: r, hs, out, 0, h => by omega
  | x :: r, hs, out, f + 1, h => by
    obtain ⟨h0, h1⟩ := hs x List.mem_cons_self
    have e : pieceS (x :: r) ++ leB 2 0 = leB 2 x.length ++ x ++ (pieceS r ++ leB 2 0) := by simp [pieceS]
    rw [e] at h ⊢
    obtain ⟨e1, e2, e3⟩ := pieces_head (x := x) (z := pieceS r ++ leB 2 0) (by omega)
    rw [piecesF, e1, if_neg (by simp only [List.length_append, leB_length]; omega), if_neg (by simp only [List.length_append, leB_length]; omega), if_neg (by omega), e2, e3]
    rw [pieces_S r (fun y hy => hs y (List.mem_cons_of_mem _ hy)) _ f (by simp only [List.length_append, leB_length] at h ⊢; omega)]
    simp
theorem pieces_stream (ls : List (List UInt8)) : pieces (streamB ls) = (ls.flatten, 0) := by
  obtain ⟨h1, h2⟩ := chunksL_ok ls
  unfold pieces streamB
  rw [pieces_S _ h2 _ _ (Nat.lt_succ_self _), h1]; rfl
end Go.Bn
