/- More of the engine: a row's own block, parts of a block, an index into a constant string. -/
import Derived.Test.YtpkhilbgkkjebaaOps7
import Derived.Laws.StructEq
namespace Go.Bn
open Go

/-- A row that holds something lies at the begin of a block of its own. -/
theorem St.row0 {B : Nat} {h0 hp : Heap} {rs : List Res} (s : St B h0 hp rs) (j : Nat) {e sz : Nat} {v : Value} {vs : List Value} (hj : rs[j]? = some (Bn.row e sz v vs)) (hpos : 0 < vs.length) :
    ∃ g n c, v = .slice (some ⟨g, 0, none⟩) n c ∧ vs.length = n * sz ∧ n ≤ c ∧ c ≤ maxLen ∧ Rd hp (some ⟨g, 0, none⟩) vs := by
  obtain ⟨A, n, c, rfl, h1, h2, h3, h4⟩ := s.row j hj
  obtain ⟨S, h, _⟩ := s.at_ hj
  rcases h with ⟨_, hv, _⟩ | ⟨g, n', cap, cur, fr, he, _⟩
  · subst hv; simp at hpos
  · cases he
    exact ⟨g, n, c, rfl, h1, h2, h3, h4⟩
/-- Some cells of a block. -/
theorem St.part {B : Nat} {h0 hp : Heap} {rs : List Res} (s : St B h0 hp rs) (j o : Nat) (pre vs post : List Value) (ho : pre.length = o) {p : Nat} {T : TypeId} (hj : rs[j]? = some (pt p T (pre ++ (vs ++ post)))) : ∀ i u, vs[i]? = some u → cellH hp ⟨p, o + i, none⟩ = some u := by
  intro i u hu
  refine s.cell j hj ?_
  rw [List.getElem?_append_right (by omega), ho, Nat.add_sub_cancel_left, List.getElem?_append_left (List.getElem?_eq_some_iff.1 hu).1]
  exact hu
theorem run_neq_of_eql {P : Program} {t : TypeId} {xs ys : Array Value} {w : World} {r : Bool} (h : (binOp .eql t (.agg xs) (.agg ys)).run P w = .ok (.bool r) w) : (binOp .neq t (.agg xs) (.agg ys)).run P w = .ok (.bool (!r)) w := by
  rw [run_eql_struct] at h
  rw [run_neq_struct]
  cases hq : (Op.equalIn 10000 t (.agg xs) (.agg ys)).run P w with
  | ok b w' => rw [hq] at h; simp [Result.andThen] at h; obtain ⟨rfl, rfl⟩ := h; rfl
  | halt h1 w' => rw [hq] at h; simp [Result.andThen] at h
section
variable {P : Program} {E : Env} {hp : Heap} {cl : Cls} {d : Option Tmp} {ty : TypeId} {pos : String} {af : Array Edge} {g : Option (Nat × Bool)}
variable {x y : Operand} {t t' : TypeId}
/-- A byte of a string. -/
theorem op_indexS {i : Nat} {k : IntKind} {s : ByteArray} {b : UInt8} (hx : ev E x = some (.string s)) (hy : ev E y = some (.int k (i : Int))) (ht : isStrT P t = true) (hb : s[i]? = some b) : Op1 cl P ⟨d, .index t x y, ty, pos, af, g⟩ E hp (.int .u8 (b.toNat : Int)) :=
  .of_pure fun _ a ho w' => by
    unfold isStrT at ht
    split at ht
    · rename_i hu
      simp [execOp, ho.eval hx, ho.eval hy, Instr.index, asIntOf, run_underlying hu, hb]
    · cases ht
/-- A slice's address behind a cut. -/
theorem cutA_some {gb o sz m : Nat} (h : m ≠ o) : cutA (some ⟨gb, 0, none⟩) o sz m = some ⟨gb, o * sz, none⟩ := by
  unfold cutA
  rw [if_neg h]
  simp [addr_add]
end
end Go.Bn
