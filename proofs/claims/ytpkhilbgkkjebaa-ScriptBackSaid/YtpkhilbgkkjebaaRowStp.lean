/- From a row's arguments to the walk's: steps of a script. -/
import Derived.Test.YtpkhilbgkkjebaaRowT
import Derived.Test.YtpkhilbgkkjebaaScript8
set_option linter.unusedVariables false
namespace Go.Bn
open Go Go.ChangeShapes Go.WideShapes Go.Deep

theorem str_toL (s : ByteArray) : str s.data.toList = s := by
  apply ByteArray.ext
  simp [str]
theorem okS_bools {hp : Heap} {d : Nat} {v : Value} (h : okS hp d (.sl [.b]) v) : ∃ (A : Option Addr) (n c : Nat) (l : List Bool), v = .slice A n c ∧ n ≤ c ∧ c ≤ maxLen ∧ l.length = n ∧ Rd hp A (l.map Value.bool) := by
  cases d with
  | zero => exact h.elim
  | succ d =>
    obtain ⟨A, n, c, rfl, h1, h2, ll, h3, h4, h5⟩ := h
    have key : ∀ ll : List (List Value), (∀ x ∈ ll, all2 (okS hp d) [.b] x) → ∃ l : List Bool, l.length = ll.length ∧ ll.flatten = l.map Value.bool := by
      intro ll
      induction ll with
      | nil => intro _; exact ⟨[], rfl, rfl⟩
      | cons x r ih =>
        intro hx
        obtain ⟨l, e1, e2⟩ := ih fun y hy => hx y (List.mem_cons_of_mem _ hy)
        obtain ⟨v, rr, rfl, hv, hn⟩ := all2_cons (hx x List.mem_cons_self)
        obtain rfl := all2_nil hn
        obtain ⟨b, rfl⟩ := okS_b hv
        exact ⟨b :: l, by simp [e1], by simp [e2]⟩
    obtain ⟨l, e1, e2⟩ := key ll h5
    exact ⟨A, n, c, l, rfl, h1, h2, by omega, by rw [← e2]; exact h4⟩
theorem okS_step {hp : Heap} {d : Nat} {cs : List Value} (h : all2 (okS hp d) [.i .i64, .str, .sl [.i .u8], .i .i64, .sl [.b], .i .i64, .i .u8] cs) :
    ∃ (s : Stp) (A K : Option Addr) (c k : Nat), cs = stC s (.slice A s.data.length c) (.slice K s.keep.length k) ∧ Rd hp A (s.data.map byteV) ∧ Rd hp K (s.keep.map Value.bool) := by
  obtain ⟨v1, r1, rfl, s1, h1⟩ := all2_cons h
  obtain ⟨v2, r2, rfl, s2, h2⟩ := all2_cons h1
  obtain ⟨v3, r3, rfl, s3, h3⟩ := all2_cons h2
  obtain ⟨v4, r4, rfl, s4, h4⟩ := all2_cons h3
  obtain ⟨v5, r5, rfl, s5, h5⟩ := all2_cons h4
  obtain ⟨v6, r6, rfl, s6, h6⟩ := all2_cons h5
  obtain ⟨v7, r7, rfl, s7, h7⟩ := all2_cons h6
  obtain rfl := all2_nil h7
  obtain ⟨kind, rfl, _⟩ := okS_i s1
  obtain ⟨nm, rfl, _⟩ := okS_str s2
  obtain ⟨A, n, c, l, rfl, _, _, hl, hr⟩ := okS_bytes s3
  obtain ⟨nn, rfl, _⟩ := okS_i s4
  obtain ⟨K, m, k, q, rfl, _, _, hq, hk⟩ := okS_bools s5
  obtain ⟨ns, rfl, _⟩ := okS_i s6
  obtain ⟨fl, rfl, hf⟩ := okS_i s7
  subst hl hq
  refine ⟨⟨kind, nm.data.toList, l, nn, q, ns, UInt8.ofNat fl.toNat⟩, A, K, c, k, ?_, hr, hk⟩
  simp only [inK] at hf
  have e : byteV (UInt8.ofNat fl.toNat) = .int .u8 fl := by
    unfold byteV; congr 1; rw [UInt8.toNat_ofNat', Nat.mod_eq_of_lt (by omega)]; omega
  simp only [stC, e, str_toL]
theorem okS_steps {hp : Heap} {d : Nat} {v : Value} (h : okS hp d (.sl [.i .i64, .str, .sl [.i .u8], .i .i64, .sl [.b], .i .i64, .i .u8]) v) :
    ∃ (A : Option Addr) (n c : Nat) (xs : List (Stp × Value × Value)), v = .slice A n c ∧ n ≤ c ∧ c ≤ maxLen ∧ xs.length = n ∧ Rd hp A (xs.flatMap stX) ∧ ∀ x ∈ xs, okX hp x := by
  cases d with
  | zero => exact h.elim
  | succ d =>
    obtain ⟨A, n, c, rfl, h1, h2, ll, h3, h4, h5⟩ := h
    have key : ∀ ll : List (List Value), (∀ x ∈ ll, all2 (okS hp d) [.i .i64, .str, .sl [.i .u8], .i .i64, .sl [.b], .i .i64, .i .u8] x) → ∃ xs : List (Stp × Value × Value), xs.length = ll.length ∧ ll.flatten = xs.flatMap stX ∧ ∀ x ∈ xs, okX hp x := by
      intro ll
      induction ll with
      | nil => intro _; exact ⟨[], rfl, rfl, by simp⟩
      | cons x r ih =>
        intro hx
        obtain ⟨xs, e1, e2, e3⟩ := ih fun y hy => hx y (List.mem_cons_of_mem _ hy)
        obtain ⟨s, A, K, c, k, rfl, ra, rk⟩ := okS_step (hx x List.mem_cons_self)
        refine ⟨(s, .slice A s.data.length c, .slice K s.keep.length k) :: xs, by simp [e1], by rw [List.flatten_cons, e2, List.flatMap_cons], ?_⟩
        intro y hy
        rcases List.mem_cons.1 hy with rfl | hy
        · exact ⟨⟨A, _, c, rfl, rfl, ra⟩, K, _, k, rfl, rfl, rk⟩
        · exact e3 y hy
    obtain ⟨xs, e1, e2, e3⟩ := key ll h5
    exact ⟨A, n, c, xs, rfl, h1, h2, by omega, by rw [← e2]; exact h4, e3⟩
end Go.Bn
