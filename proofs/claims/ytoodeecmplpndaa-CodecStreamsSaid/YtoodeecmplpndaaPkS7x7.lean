/- Packed texts of a claim: what its theorem uses, joined. -/
import Derived.Test.YtoodeecmplpndaaPkS7x6
section
set_option linter.unusedVariables false
set_option linter.unusedSimpArgs false
namespace Go.Bn
structure Kls where
  num : Int
  bits : Int
  ext : Int
  deriving DecidableEq
def Kls.nil : Kls := ⟨0, 0, 0⟩
def bitsC (i : Nat) : Nat := if i < 4 then 0 else i / 2 - 1
def baseC : Nat → Nat
  | 0 => 0
  | i + 1 => baseC i + 2 ^ bitsC i
def lenN (v : Nat) : Nat := if v = 0 then 0 else Nat.log2 v + 1
theorem two_lt (k : Nat) : 0 < 2 ^ k := Nat.pow_pos (by omega)
theorem baseC_even (n : Nat) : baseC (2 * (n + 1) + 2) = 2 * 2 ^ (n + 1) ∧ baseC (2 * (n + 1) + 3) = 3 * 2 ^ (n + 1) := by
 induction n with
 | zero => decide
 | succ n ih =>
  have b3 : bitsC (2 * (n + 1) + 3) = n + 1 := by unfold bitsC; rw [if_neg (by omega)]; omega
  have b2 : bitsC (2 * (n + 1 + 1) + 2) = n + 1 + 1 := by unfold bitsC; rw [if_neg (by omega)]; omega
  have e1 : baseC (2 * (n + 1 + 1) + 2) = baseC (2 * (n + 1) + 3) + 2 ^ (n + 1) := by
   rw [show 2 * (n + 1 + 1) + 2 = (2 * (n + 1) + 3) + 1 by omega, baseC, b3]
  have e2 : baseC (2 * (n + 1 + 1) + 3) = baseC (2 * (n + 1 + 1) + 2) + 2 ^ (n + 1 + 1) := by
   conv => lhs; rw [show 2 * (n + 1 + 1) + 3 = (2 * (n + 1 + 1) + 2) + 1 from rfl, baseC, b2]
  rw [ih.2] at e1
  refine ⟨by rw [e1, Nat.pow_succ 2 (n + 1)]; omega, by rw [e2, e1, Nat.pow_succ 2 (n + 1)]; omega⟩
theorem baseC_form (i : Nat) (h : 4 ≤ i) : baseC i = (2 + i % 2) * 2 ^ (i / 2 - 1) := by
 rcases (by omega : i % 2 = 0 ∨ i % 2 = 1) with h2 | h2
 ·obtain ⟨n, rfl⟩ : ∃ n, i = 2 * (n + 1) + 2 := ⟨i / 2 - 2, by omega⟩
  rw [(baseC_even n).1, h2, show (2 * (n + 1) + 2) / 2 - 1 = n + 1 by omega]
 ·obtain ⟨n, rfl⟩ : ∃ n, i = 2 * (n + 1) + 3 := ⟨i / 2 - 2, by omega⟩
  rw [(baseC_even n).2, h2, show (2 * (n + 1) + 3) / 2 - 1 = n + 1 by omega]
theorem baseC_small : ∀ i, i < 5 → baseC i = i := by decide
theorem baseC_lt (i : Nat) : baseC i < baseC (i + 1) := by
 rw [baseC]; have := two_lt (bitsC i); omega
theorem baseC_mono {i j : Nat} (h : i ≤ j) : baseC i ≤ baseC j := by
 induction j with
 | zero =>
  obtain rfl : i = 0 := by omega
  exact Nat.le_refl _
 | succ j ih =>
  rcases Nat.lt_or_ge j i with h1 | h1
  ·obtain rfl : i = j + 1 := by omega
   exact Nat.le_refl _
  ·have := ih h1; have := baseC_lt j; omega
def klsN (v : Nat) : Nat := if v < 4 then v else 2 * (lenN v - 2) + v / 2 ^ (lenN v - 2)
theorem len_spec {v : Nat} (h : 4 ≤ v) : 3 ≤ lenN v ∧ 2 ^ (lenN v - 1) ≤ v ∧ v < 2 ^ lenN v := by
 have h0 : v ≠ 0 := by omega
 have e : lenN v = Nat.log2 v + 1 := by unfold lenN; rw [if_neg h0]
 have h1 := Nat.log2_self_le h0
 have h2 : v < 2 ^ (Nat.log2 v + 1) := Nat.lt_log2_self
 have h3 : 2 ≤ Nat.log2 v := (Nat.le_log2 h0).2 (by omega)
 rw [e]
 exact ⟨by omega, by simpa using h1, h2⟩
theorem kls_spec {v : Nat} (h : 4 ≤ v) : ∃ n q, lenN v = n + 2 ∧ 1 ≤ n ∧ (q = 2 ∨ q = 3) ∧ v / 2 ^ n = q ∧ klsN v = 2 * n + q ∧ bitsC (2 * n + q) = n ∧ baseC (2 * n + q) = q * 2 ^ n ∧ q * 2 ^ n + v % 2 ^ n = v := by
 obtain ⟨h1, h2, h3⟩ := len_spec h
 obtain ⟨n, hn⟩ : ∃ n, lenN v = n + 2 := ⟨lenN v - 2, by omega⟩
 rw [hn, show n + 2 - 1 = n + 1 by omega] at h2
 rw [hn] at h3
 have p1 : 2 ^ (n + 1) = 2 * 2 ^ n := by rw [Nat.pow_succ, Nat.mul_comm]
 have p2 : 2 ^ (n + 2) = 4 * 2 ^ n := by rw [Nat.pow_succ, p1]; omega
 have hd := Nat.div_add_mod v (2 ^ n)
 have hm := Nat.mod_lt v (two_lt n)
 have hq : v / 2 ^ n = 2 ∨ v / 2 ^ n = 3 := by
  have a1 : 2 ≤ v / 2 ^ n := (Nat.le_div_iff_mul_le (two_lt n)).2 (by omega)
  have a2 : v / 2 ^ n < 4 := (Nat.div_lt_iff_lt_mul (two_lt n)).2 (by omega)
  omega
 refine ⟨n, v / 2 ^ n, hn, by omega, hq, rfl, ?_, ?_, ?_, ?_⟩
 ·unfold klsN; rw [if_neg (by omega), hn]; rfl
 ·unfold bitsC; rw [if_neg (by omega)]; omega
 ·rw [baseC_form _ (by omega)]
  rcases hq with e | e <;> rw [e]
  ·rw [show (2 + (2 * n + 2) % 2) = 2 by omega, show (2 * n + 2) / 2 - 1 = n by omega]
  ·rw [show (2 + (2 * n + 3) % 2) = 3 by omega, show (2 * n + 3) / 2 - 1 = n by omega]
 ·rw [Nat.mul_comm]; exact hd
theorem klsN_between (v : Nat) : baseC (klsN v) ≤ v ∧ v < baseC (klsN v + 1) ∧ (v < 32768 → klsN v < 30) := by
 rcases Nat.lt_or_ge v 4 with h | h
 ·have e : klsN v = v := by unfold klsN; rw [if_pos h]
  rw [e, baseC_small v (by omega), baseC_small (v + 1) (by omega)]
  exact ⟨Nat.le_refl _, by omega, fun _ => by omega⟩
 ·obtain ⟨n, q, hn, hn1, hq, hv, hc, hb, hbase, hsum⟩ := kls_spec h
  have hm := Nat.mod_lt v (two_lt n)
  rw [hc, baseC, hbase, hb]
  refine ⟨by omega, by omega, fun hlt => ?_⟩
  have h2 : 2 ^ (n + 1) < 2 ^ 15 := by
   have : q * 2 ^ n ≤ v := by omega
   rw [Nat.pow_succ]
   rcases hq with rfl | rfl <;> omega
  have := (Nat.pow_lt_pow_iff_right (by omega : 1 < 2)).1 h2
  omega
theorem klsN_unique {v c : Nat} (h1 : baseC c ≤ v) (h2 : v < baseC (c + 1)) : klsN v = c := by
 obtain ⟨g1, g2, _⟩ := klsN_between v
 rcases Nat.lt_or_ge (klsN v) c with h | h
 ·have := baseC_mono (show klsN v + 1 ≤ c by omega); omega
 ·rcases Nat.lt_or_ge c (klsN v) with h' | h'
  ·have := baseC_mono (show c + 1 ≤ klsN v by omega); omega
  ·omega
theorem klsN_mono {v w : Nat} (h : v ≤ w) : klsN v ≤ klsN w := by
 obtain ⟨g1, _, _⟩ := klsN_between v
 obtain ⟨_, k2, _⟩ := klsN_between w
 rcases Nat.lt_or_ge (klsN w) (klsN v) with h' | h'
 ·have := baseC_mono (show klsN w + 1 ≤ klsN v by omega); omega
 ·exact h'
def klsOf (v : Nat) : Kls := ⟨klsN v, bitsC (klsN v), ((v - baseC (klsN v) : Nat) : Int)⟩
theorem klsOf_small {v : Nat} (h : v < 4) : klsOf v = ⟨v, 0, 0⟩ := by
 have e : klsN v = v := by unfold klsN; rw [if_pos h]
 unfold klsOf
 rw [e, baseC_small v (by omega)]
 unfold bitsC
 rw [if_pos h]; simp
theorem klsOf_big {v n q : Nat} (hc : klsN v = 2 * n + q) (hb : bitsC (2 * n + q) = n) (hbase : baseC (2 * n + q) = q * 2 ^ n) (hsum : q * 2 ^ n + v % 2 ^ n = v) : klsOf v = ⟨((2 * n + q : Nat) : Int), n, ((v % 2 ^ n : Nat) : Int)⟩ := by
 unfold klsOf
 rw [hc, hb, hbase, show v - q * 2 ^ n = v % 2 ^ n by omega]
def ofC (v : Int) : Kls × Bool := if v < 0 ∨ 32767 < v then (Kls.nil, false) else (klsOf v.toNat, true)
def lastC (v : Nat) : Nat → Nat
  | 0 => 0
  | k + 1 => if baseC k ≤ v then k else lastC v k
theorem lastC_eq {v c : Nat} (h1 : baseC c ≤ v) (h2 : v < baseC (c + 1)) : ∀ k, c < k → lastC v k = c
 | 0, h => by omega
 | k + 1, h => by
  unfold lastC
  rcases Nat.lt_or_ge c k with hk | hk
  ·have := baseC_mono (show c + 1 ≤ k by omega)
   rw [if_neg (by omega)]
   exact lastC_eq h1 h2 k hk
  ·obtain rfl : c = k := by omega
   rw [if_pos h1]
theorem lastC_kls {v : Nat} (h : v < 32768) : lastC v 30 = klsN v :=
 let ⟨g1, g2, g3⟩ := klsN_between v
 lastC_eq g1 g2 30 (g3 h)
def valC (c : Kls) : Option Nat :=
  if c.num < 0 ∨ 30 ≤ c.num then none
  else if c.bits ≠ bitsC c.num.toNat then none
  else if (2 : Int) ^ bitsC c.num.toNat ≤ c.ext then none
  else some (baseC c.num.toNat + c.ext.toNat)
theorem valC_some {c : Kls} {v : Nat} (h : valC c = some v) : 0 ≤ c.num ∧ c.num < 30 ∧ c.bits = bitsC c.num.toNat ∧ c.ext < (2 : Int) ^ bitsC c.num.toNat ∧ v = baseC c.num.toNat + c.ext.toNat := by
 unfold valC at h
 split at h
 ·cases h
 ·split at h
  ·cases h
  ·split at h
   ·cases h
   ·cases h
    rename_i a b d
    exact ⟨by omega, by omega, Decidable.not_not.1 b, by omega, rfl⟩
theorem valC_lt {c : Kls} {v : Nat} (h : valC c = some v) : v < 65536 := by
 obtain ⟨h1, h2, h3, h4, h5⟩ := valC_some h
 have hb : c.ext.toNat < 2 ^ bitsC c.num.toNat := by
  have : ((2 ^ bitsC c.num.toNat : Nat) : Int) = (2 : Int) ^ bitsC c.num.toNat := by rw [Int.natCast_pow]; rfl
  have := two_lt (bitsC c.num.toNat)
  omega
 have := baseC_mono (show c.num.toNat + 1 ≤ 30 by omega)
 rw [baseC, show baseC 30 = 65536 / 2 by decide] at this
 omega
theorem valC_of {v : Nat} (h : v < 32768) : valC (klsOf v) = some v := by
 obtain ⟨g1, g2, g3⟩ := klsN_between v
 have := g3 h
 have hp : ((2 ^ bitsC (klsN v) : Nat) : Int) = (2 : Int) ^ bitsC (klsN v) := by rw [Int.natCast_pow]; rfl
 rw [baseC] at g2
 unfold valC klsOf
 simp only [Int.toNat_natCast]
 rw [if_neg (by omega), if_neg (by simp), if_neg (by rw [← hp]; omega)]
 congr 1; omega
structure Tok where
  byte : Int
  len : Int
  dist : Int
  deriving DecidableEq
def Tok.nil : Tok := ⟨0, 0, 0⟩
def Tok.right (t : Tok) : Prop := if t.len = 0 then t.dist = 0 else t.byte = 0 ∧ 3 ≤ t.len ∧ t.len ≤ 258 ∧ 1 ≤ t.dist ∧ t.dist ≤ 32768
instance (t : Tok) : Decidable t.right := by unfold Tok.right; infer_instance
structure Sy where
  a : Kls
  b : Kls
  m : Bool
  deriving DecidableEq
def Sy.nil : Sy := ⟨Kls.nil, Kls.nil, false⟩
def splitY (t : Tok) : Sy :=
  if t.len = 0 then ⟨⟨t.byte, 0, 0⟩, Kls.nil, false⟩
  else ⟨⟨(klsOf (t.len - 3).toNat).num + 257, (klsOf (t.len - 3).toNat).bits, (klsOf (t.len - 3).toNat).ext⟩, klsOf (t.dist - 1).toNat, true⟩
def splitT (t : Tok) : Sy × Bool := if t.right then (splitY t, true) else (Sy.nil, false)
def matchT (r : Sy) : Tok × Bool :=
  match valC ⟨r.a.num - 257, r.a.bits, r.a.ext⟩, valC r.b with
  | some x, some y => if (Tok.mk 0 (x + 3) (y + 1)).right then (Tok.mk 0 (x + 3) (y + 1), true) else (Tok.nil, false)
  | _, _ => (Tok.nil, false)
def joinT (r : Sy) : Tok × Bool :=
  if r.m = true then (if 257 ≤ r.a.num ∧ r.a.num < 273 then matchT r else (Tok.nil, false))
  else if 0 ≤ r.a.num ∧ r.a.num < 256 ∧ r = ⟨⟨r.a.num, 0, 0⟩, Kls.nil, false⟩ then (⟨r.a.num, 0, 0⟩, true)
  else (Tok.nil, false)
theorem klsN_255 {v : Nat} (h : v < 256) : klsN v < 16 := by
 have := klsN_mono (show v ≤ 255 by omega)
 have e : klsN 255 = 15 := klsN_unique (by decide) (by decide)
 omega
theorem join_split {t : Tok} (h : t.right) (hb : 0 ≤ t.byte ∧ t.byte < 256) : joinT (splitY t) = (t, true) ∧ 0 ≤ (splitY t).a.num ∧ (splitY t).a.num < 273 ∧ (splitY t).a.num ≠ 256 ∧ 0 ≤ (splitY t).b.num ∧ (splitY t).b.num < 30 := by
 have h' := h
 unfold Tok.right at h
 by_cases h0 : t.len = 0
 ·rw [if_pos h0] at h
  have e : splitY t = ⟨⟨t.byte, 0, 0⟩, Kls.nil, false⟩ := by unfold splitY; rw [if_pos h0]
  rw [e]
  refine ⟨?_, by simp only; omega, by simp only; omega, by simp only; omega, by simp [Kls.nil], by simp [Kls.nil]⟩
  unfold joinT
  rw [if_neg (by simp), if_pos ⟨hb.1, hb.2, rfl⟩]
  cases t; simp only at *; subst h0 h; rfl
 ·rw [if_neg h0] at h
  obtain ⟨h1, h2, h3, h4, h5⟩ := h
  have e : splitY t = ⟨⟨(klsOf (t.len - 3).toNat).num + 257, (klsOf (t.len - 3).toNat).bits, (klsOf (t.len - 3).toNat).ext⟩, klsOf (t.dist - 1).toNat, true⟩ := by unfold splitY; rw [if_neg h0]
  have c1 : (t.len - 3).toNat < 256 := by omega
  have c2 : (t.dist - 1).toNat < 32768 := by omega
  have k1 := klsN_255 c1
  have k2 := (klsN_between (t.dist - 1).toNat).2.2 c2
  have n1 : (klsOf (t.len - 3).toNat).num = klsN (t.len - 3).toNat := rfl
  have n2 : (klsOf (t.dist - 1).toNat).num = klsN (t.dist - 1).toNat := rfl
  rw [e]
  refine ⟨?_, by simp only; omega, by simp only; omega, by simp only; omega, by simp only; omega, by simp only; omega⟩
  unfold joinT
  rw [if_pos rfl, if_pos (by simp only; omega)]
  unfold matchT
  simp only [show (klsOf (t.len - 3).toNat).num + 257 - 257 = (klsOf (t.len - 3).toNat).num by omega]
  rw [show (Kls.mk (klsOf (t.len - 3).toNat).num (klsOf (t.len - 3).toNat).bits (klsOf (t.len - 3).toNat).ext) = klsOf (t.len - 3).toNat from rfl, valC_of (by omega), valC_of c2]
  have et : Tok.mk 0 (((t.len - 3).toNat : Int) + 3) (((t.dist - 1).toNat : Int) + 1) = t := by
   cases t; simp only at *; congr 1 <;> omega
  simp only [et]
  rw [if_pos h']
end Go.Bn
end

section
set_option linter.unusedVariables false
set_option linter.unusedSimpArgs false
namespace Go.Bn
noncomputable def clsT (ls : List Nat) (fr : Nat) (bs : List Bool) (a : Nat) : Kls × Nat × Nat :=
  if (takeC ls (bs.drop a)).2.2 ≠ 0 ∨ (takeC ls (bs.drop a)).1 < fr then (⟨(takeC ls (bs.drop a)).1, 0, 0⟩, a + (takeC ls (bs.drop a)).2.1, (takeC ls (bs.drop a)).2.2)
  else if bs.length - (a + (takeC ls (bs.drop a)).2.1) < bitsC ((takeC ls (bs.drop a)).1 - fr) then (Kls.nil, a + (takeC ls (bs.drop a)).2.1, 2)
  else (⟨(takeC ls (bs.drop a)).1, bitsC ((takeC ls (bs.drop a)).1 - fr), (numB bs (a + (takeC ls (bs.drop a)).2.1) (bitsC ((takeC ls (bs.drop a)).1 - fr)) : Nat)⟩, a + (takeC ls (bs.drop a)).2.1 + bitsC ((takeC ls (bs.drop a)).1 - fr), 0)
noncomputable def nextT (la lb : List Nat) (bs : List Bool) (a : Nat) : Tok × Nat × Bool × Nat :=
  if (clsT la 257 bs a).2.2 ≠ 0 ∨ (clsT la 257 bs a).1.num = 256 then (Tok.nil, (clsT la 257 bs a).2.1, true, (clsT la 257 bs a).2.2)
  else if 256 < (clsT la 257 bs a).1.num then
    if (clsT lb 0 bs (clsT la 257 bs a).2.1).2.2 ≠ 0 then (Tok.nil, (clsT lb 0 bs (clsT la 257 bs a).2.1).2.1, true, (clsT lb 0 bs (clsT la 257 bs a).2.1).2.2)
    else if (joinT ⟨(clsT la 257 bs a).1, (clsT lb 0 bs (clsT la 257 bs a).2.1).1, true⟩).2 = true then ((joinT ⟨(clsT la 257 bs a).1, (clsT lb 0 bs (clsT la 257 bs a).2.1).1, true⟩).1, (clsT lb 0 bs (clsT la 257 bs a).2.1).2.1, false, 0)
    else (Tok.nil, (clsT lb 0 bs (clsT la 257 bs a).2.1).2.1, true, 3)
  else if (joinT ⟨(clsT la 257 bs a).1, Kls.nil, false⟩).2 = true then ((joinT ⟨(clsT la 257 bs a).1, Kls.nil, false⟩).1, (clsT la 257 bs a).2.1, false, 0)
  else (Tok.nil, (clsT la 257 bs a).2.1, true, 3)
def Tok.size (t : Tok) : Nat := max 1 t.len.toNat
noncomputable def goB (la lb : List Nat) (bs : List Bool) (most : Int) : Nat → Nat → Nat → List Tok → List Tok × Nat × Nat × Nat
  | 0, _, _, _ => ([], 0, 0, 2)
  | f + 1, a, sz, acc =>
    if (nextT la lb bs a).2.2.1 = true then (if (nextT la lb bs a).2.2.2 ≠ 0 then ([], 0, 0, (nextT la lb bs a).2.2.2) else (acc, sz, (nextT la lb bs a).2.1, 0))
    else if (sz : Int) < (nextT la lb bs a).1.dist then ([], 0, 0, 3)
    else if most - sz < (nextT la lb bs a).1.size then ([], 0, 0, 5)
    else goB la lb bs most f (nextT la lb bs a).2.1 (sz + (nextT la lb bs a).1.size) (acc ++ [(nextT la lb bs a).1])
def castI (l : List Nat) : List Int := l.map fun n : Nat => (n : Int)
noncomputable def codesT (bs : List Bool) (a : Nat) : Nat × List Nat × List Nat × Nat :=
  if (takeR bs a (okR bs a)).2.2 ≠ 0 then ((takeR bs a (okR bs a)).2.2, [], [], 0)
  else if (takeR bs (takeR bs a (okR bs a)).2.1 (okR bs (takeR bs a (okR bs a)).2.1)).2.2 ≠ 0 then ((takeR bs (takeR bs a (okR bs a)).2.1 (okR bs (takeR bs a (okR bs a)).2.1)).2.2, [], [], 0)
  else if (takeR bs a (okR bs a)).1.length ≠ 273 ∨ (takeR bs (takeR bs a (okR bs a)).2.1 (okR bs (takeR bs a (okR bs a)).2.1)).1.length ≠ 30 then (3, [], [], 0)
  else if ¬ rightC (castI (takeR bs a (okR bs a)).1) ∨ ¬ rightC (castI (takeR bs (takeR bs a (okR bs a)).2.1 (okR bs (takeR bs a (okR bs a)).2.1)).1) then (13, [], [], 0)
  else (0, (takeR bs a (okR bs a)).1, (takeR bs (takeR bs a (okR bs a)).2.1 (okR bs (takeR bs a (okR bs a)).2.1)).1, (takeR bs (takeR bs a (okR bs a)).2.1 (okR bs (takeR bs a (okR bs a)).2.1)).2.1)
noncomputable def blockT (bs : List Bool) (most : Int) : List Tok × Nat × Nat × Nat :=
  if (codesT bs 0).1 ≠ 0 then ([], 0, 0, (codesT bs 0).1) else goB (codesT bs 0).2.1 (codesT bs 0).2.2.1 bs most (bs.length + 1) (codesT bs 0).2.2.2 0 []
theorem castI_toNat (l : List Nat) : (castI l).map Int.toNat = l := cast_toNat l
structure CodesOk (bs : List Bool) (la lb : List Nat) (a : Nat) : Prop where
  oka : lensOK la
  okb : lensOK lb
  lena : la.length = 273
  lenb : lb.length = 30
theorem codesT_ok {bs : List Bool} {a : Nat} (h : (codesT bs a).1 = 0) : CodesOk bs (codesT bs a).2.1 (codesT bs a).2.2.1 a := by
 revert h
 unfold codesT
 obtain ⟨X, hX⟩ : ∃ X, takeR bs a (okR bs a) = X := ⟨_, rfl⟩
 rw [hX]
 obtain ⟨Y, hY⟩ : ∃ Y, takeR bs X.2.1 (okR bs X.2.1) = Y := ⟨_, rfl⟩
 rw [hY]
 split
 ·intro h; exact absurd h ‹_›
 ·split
  ·intro h; exact absurd h ‹_›
  ·split
   ·intro h; cases h
   ·split
    ·intro h; cases h
    ·rename_i h3 h4
     intro _
     have h5 : rightC (castI X.1) ∧ rightC (castI Y.1) := by
      constructor
      ·exact Classical.byContradiction fun hn => h4 (.inl hn)
      ·exact Classical.byContradiction fun hn => h4 (.inr hn)
     have k1 := h5.1.ok
     have k2 := h5.2.ok
     rw [castI_toNat] at k1 k2
     exact ⟨k1, k2, by simp only; omega, by simp only; omega⟩
theorem takeC_small {ls : List Nat} (hok : lensOK ls) (bs : List Bool) : (takeC ls bs).1 < ls.length ∨ (takeC ls bs).1 = 0 := by
 by_cases h : (takeC ls bs).2.2 = 0
 ·obtain ⟨h1, _⟩ := takeC_sym hok h
  exact .inl h1
 ·refine .inr ?_
  rw [takeC_S hok] at h ⊢
  unfold takeS at h ⊢
  cases hf : (qcodes ls).find? (matchQ bs) with
  | some c => rw [hf] at h; exact absurd rfl h
  | none => simp only; split <;> rfl
theorem clsT_num {ls : List Nat} {fr : Nat} {bs : List Bool} {a : Nat} (hok : lensOK ls) (hl : ls.length ≤ fr + 30) (hl2 : ls.length ≤ 320) : 0 ≤ (clsT ls fr bs a).1.num ∧ (clsT ls fr bs a).1.num < 320 ∧ 0 ≤ (clsT ls fr bs a).1.ext ∧ (clsT ls fr bs a).1.ext < 4294967296 := by
 have h1 : (takeC ls (bs.drop a)).1 < 320 := by
  have := hok.1
  rcases takeC_small hok (bs.drop a) with h | h <;> omega
 unfold clsT
 split
 ·exact ⟨by simp only; omega, by simp only; omega, by simp only; omega, by simp only; omega⟩
 ·split
  ·exact ⟨by simp [Kls.nil], by simp [Kls.nil], by simp [Kls.nil], by simp [Kls.nil]⟩
  ·rename_i h2 h3
   have hb : bitsC ((takeC ls (bs.drop a)).1 - fr) ≤ 13 := by
    have : (takeC ls (bs.drop a)).1 - fr < 30 := by
     have := hok.1
     rcases takeC_small hok (bs.drop a) with h | h <;> omega
    unfold bitsC; split <;> omega
   have hn := numB_lt bs (a + (takeC ls (bs.drop a)).2.1) (bitsC ((takeC ls (bs.drop a)).1 - fr))
   have : 2 ^ bitsC ((takeC ls (bs.drop a)).1 - fr) ≤ 2 ^ 13 := Nat.pow_le_pow_right (by omega) hb
   exact ⟨by simp only; omega, by simp only; omega, by simp only; omega, by simp only; omega⟩
theorem clsT_at {ls : List Nat} {fr : Nat} {bs : List Bool} {a : Nat} (hok : lensOK ls) (ha : a ≤ bs.length) : a ≤ (clsT ls fr bs a).2.1 ∧ (clsT ls fr bs a).2.1 ≤ bs.length ∧ ((clsT ls fr bs a).2.2 = 0 → a < (clsT ls fr bs a).2.1) := by
 have hle := takeC_le ls (bs.drop a)
 rw [List.length_drop] at hle
 have hpos := fun h => takeC_pos hok (bs := bs.drop a) h
 unfold clsT
 split
 ·exact ⟨by simp only; omega, by simp only; omega, fun h => by simp only at h ⊢; have := hpos h; omega⟩
 ·split
  ·exact ⟨by simp only; omega, by simp only; omega, fun h => by cases h⟩
  ·rename_i h1 h2
   have := hpos (by omega)
   exact ⟨by simp only; omega, by simp only; omega, fun _ => by simp only; omega⟩
theorem joinT_right {r : Sy} (h : (joinT r).2 = true) : (joinT r).1.right ∧ 0 ≤ (joinT r).1.byte ∧ (joinT r).1.byte < 256 := by
 unfold joinT at *
 split at h
 ·rename_i hm
  split at h
  ·rename_i hr
   rw [if_pos hm, if_pos hr]
   unfold matchT at *
   split at h
   ·rename_i x y hx hy
    split at h
    ·rename_i ht
     simp only [hx, hy, if_pos ht]
     exact ⟨ht, by simp, by simp⟩
    ·cases h
   ·cases h
  ·cases h
 ·split at h
  ·rename_i hm hr
   rw [if_neg hm, if_pos hr]
   exact ⟨by unfold Tok.right; rw [if_pos rfl], hr.1, hr.2.1⟩
  ·cases h
theorem nextT_at {la lb : List Nat} {bs : List Bool} {a : Nat} (oka : lensOK la) (okb : lensOK lb) (ha : a ≤ bs.length) :
  a ≤ (nextT la lb bs a).2.1 ∧ (nextT la lb bs a).2.1 ≤ bs.length ∧ ((nextT la lb bs a).2.2.1 = false → a < (nextT la lb bs a).2.1 ∧ (nextT la lb bs a).2.2.2 = 0 ∧ (nextT la lb bs a).1.right ∧ 0 ≤ (nextT la lb bs a).1.byte ∧ (nextT la lb bs a).1.byte < 256) := by
 obtain ⟨h1, h2, h3⟩ := clsT_at (fr := 257) oka ha
 obtain ⟨k1, k2, k3⟩ := clsT_at (fr := 0) okb h2
 unfold nextT
 split
 ·exact ⟨h1, h2, fun h => by cases h⟩
 ·split
  ·split
   ·exact ⟨by simp only; omega, k2, fun h => by cases h⟩
   ·split
    ·rename_i a1 a2 a3 a4
     exact ⟨by simp only; omega, k2, fun _ => ⟨by simp only; have := h3 (by omega); omega, rfl, joinT_right a4⟩⟩
    ·exact ⟨by simp only; omega, k2, fun h => by cases h⟩
  ·split
   ·rename_i a1 a2 a3
    exact ⟨h1, h2, fun _ => ⟨h3 (by omega), rfl, joinT_right a3⟩⟩
   ·exact ⟨h1, h2, fun h => by cases h⟩
theorem Tok.size_le {t : Tok} (h : t.right) : 1 ≤ t.size ∧ t.size ≤ 258 ∧ (t.size : Int) = max 1 t.len := by
 unfold Tok.right at h
 unfold Tok.size
 split at h <;> refine ⟨by omega, by omega, by omega⟩
end Go.Bn
end

section
namespace Go.Bn
def rightL (l : List Tok) : Prop := l.length ≤ 65536 ∧ ∀ t ∈ l, t.right
instance (l : List Tok) : Decidable (rightL l) := by unfold rightL; infer_instance
def addAt (l : List Nat) (i : Nat) : List Nat := l.set i (l.getD i 0 + 1)
theorem addAt_length (l : List Nat) (i : Nat) : (addAt l i).length = l.length := by simp [addAt]
theorem addAt_sum : ∀ (l : List Nat) (i : Nat), (addAt l i).sum ≤ l.sum + 1
 | [], i => by simp [addAt]
 | x :: l, 0 => by simp [addAt]; omega
 | x :: l, i + 1 => by
  have := addAt_sum l i
  simp only [addAt, List.set_cons_succ, List.getD_cons_succ, List.sum_cons] at this ⊢
  omega
theorem le_sum : ∀ {l : List Nat} {x : Nat}, x ∈ l → x ≤ l.sum
 | y :: l, x, h => by
  rw [List.sum_cons]
  rcases List.mem_cons.1 h with rfl | h
  ·omega
  ·have := le_sum h; omega
def stepW (s : List Nat × List Nat × Nat) (y : Sy) : List Nat × List Nat × Nat := (addAt s.1 y.a.num.toNat, if y.m = true then addAt s.2.1 y.b.num.toNat else s.2.1, if y.m = true then s.2.2 + 1 else s.2.2)
def startW : List Nat × List Nat × Nat := ((List.replicate 273 0).set 256 1, List.replicate 30 0, 0)
def foldW (ys : List Sy) : List Nat × List Nat × Nat := ys.foldl stepW startW
theorem foldW_snoc (ys : List Sy) (y : Sy) : foldW (ys ++ [y]) = stepW (foldW ys) y := by simp [foldW, List.foldl_append]
theorem foldW_ok (ys : List Sy) : (foldW ys).1.length = 273 ∧ (foldW ys).2.1.length = 30 ∧ (foldW ys).1.sum ≤ 1 + ys.length ∧ (foldW ys).2.1.sum ≤ ys.length ∧ (foldW ys).2.2 ≤ ys.length := by
 suffices h : ∀ (ys : List Sy) (s : List Nat × List Nat × Nat), s.1.length = 273 → s.2.1.length = 30 → (ys.foldl stepW s).1.length = 273 ∧ (ys.foldl stepW s).2.1.length = 30 ∧ (ys.foldl stepW s).1.sum ≤ s.1.sum + ys.length ∧ (ys.foldl stepW s).2.1.sum ≤ s.2.1.sum + ys.length ∧ (ys.foldl stepW s).2.2 ≤ s.2.2 + ys.length by
  obtain ⟨h1, h2, h3, h4, h5⟩ := h ys startW (by decide +kernel) (by decide +kernel)
  refine ⟨h1, h2, ?_, ?_, ?_⟩
  ·rw [show startW.1.sum = 1 by decide +kernel] at h3; exact h3
  ·rw [show startW.2.1.sum = 0 by decide +kernel] at h4; unfold foldW; omega
  ·rw [show startW.2.2 = 0 by decide +kernel] at h5; unfold foldW; omega
 intro ys
 induction ys with
 | nil => intro s h1 h2; exact ⟨h1, h2, Nat.le_refl _, Nat.le_refl _, Nat.le_refl _⟩
 | cons y ys ih =>
  intro s h1 h2
  rw [List.foldl_cons]
  obtain ⟨g1, g2, g3, g4, g5⟩ := ih (stepW s y) (by simp only [stepW]; rw [addAt_length]; exact h1) (by simp only [stepW]; split; rw [addAt_length]; exact h2; exact h2)
  have a1 : (stepW s y).1.sum ≤ s.1.sum + 1 := addAt_sum s.1 y.a.num.toNat
  have a2 : (stepW s y).2.1.sum ≤ s.2.1.sum + 1 := by
   have := addAt_sum s.2.1 y.b.num.toNat
   simp only [stepW]; split <;> omega
  have a3 : (stepW s y).2.2 ≤ s.2.2 + 1 := by simp only [stepW]; split <;> omega
  rw [List.length_cons]
  exact ⟨g1, g2, by omega, by omega, by omega⟩
def firstW (ys : List Sy) : List Nat := (foldW ys).1
def secondW (ys : List Sy) : List Nat := if (foldW ys).2.2 = 0 then (foldW ys).2.1.set 0 1 else (foldW ys).2.1
theorem splitT_yes {t : Tok} (h : t.right) : splitT t = (splitY t, true) := if_pos h
theorem splitT_no {t : Tok} (h : ¬ t.right) : splitT t = (Sy.nil, false) := if_neg h
end Go.Bn
end

section
set_option linter.unusedVariables false
set_option linter.unusedSimpArgs false
namespace Go.Bn
def Rk (key : Nat → Nat) (a b : Nat) : Prop := key a < key b ∨ (key a = key b ∧ a < b)
def cmpI (a b : Nat) : Int := if a < b then -1 else if b < a then 1 else 0
theorem cmpI_neg {a b : Nat} : cmpI a b < 0 ↔ a < b := by unfold cmpI; split <;> (try split) <;> omega
abbrev RkS (key : Nat → Nat) (l : List Nat) : Prop := l.Pairwise (Rk key)
def PreM (key : Nat → Nat) (U V : List Nat) : Prop := RkS key U ∧ RkS key V ∧ ∀ u ∈ U, ∀ v ∈ V, key u = key v → u < v
def Mrg (key : Nat → Nat) (U V W : List Nat) : Prop := W.Perm (U ++ V) ∧ RkS key W
variable {key : Nat → Nat}
theorem Rk.le {a b : Nat} (h : Rk key a b) : key a ≤ key b := by rcases h with h | h <;> omega
theorem getD_eq {l : List Nat} {i : Nat} (h : i < l.length) : l.getD i 0 = l[i] := by simp [List.getD, h]
theorem getD_mem {l : List Nat} {i : Nat} (h : i < l.length) : l.getD i 0 ∈ l := by rw [getD_eq h]; exact List.getElem_mem h
theorem RkS.get {l : List Nat} (h : RkS key l) {i j : Nat} (hij : i < j) (hj : j < l.length) : Rk key (l.getD i 0) (l.getD j 0) := by
 rw [getD_eq (by omega), getD_eq hj]
 exact List.pairwise_iff_getElem.1 h i j (by omega) hj hij
theorem RkS.get_le {l : List Nat} (h : RkS key l) {i j : Nat} (hij : i ≤ j) (hj : j < l.length) : key (l.getD i 0) ≤ key (l.getD j 0) := by
 rcases Nat.lt_or_eq_of_le hij with h1 | rfl
 ·exact (h.get h1 hj).le
 ·exact Nat.le_refl _
theorem mem_take_get {l : List Nat} {i x : Nat} (h : x ∈ l.take i) : ∃ j, j < i ∧ j < l.length ∧ x = l.getD j 0 := by
 obtain ⟨j, hj, he⟩ := List.mem_take_iff_getElem.1 h
 exact ⟨j, by omega, by omega, by rw [getD_eq (by omega)]; exact he.symm⟩
theorem mem_drop_get {l : List Nat} {i x : Nat} (h : x ∈ l.drop i) : ∃ j, i ≤ j ∧ j < l.length ∧ x = l.getD j 0 := by
 obtain ⟨j, hj, he⟩ := List.mem_drop_iff_getElem.1 h
 exact ⟨i + j, by omega, by omega, by rw [getD_eq (by omega), ← he]⟩
theorem RkS.take {l : List Nat} (h : RkS key l) (i : Nat) : RkS key (l.take i) := h.sublist (List.take_sublist _ _)
theorem RkS.drop {l : List Nat} (h : RkS key l) (i : Nat) : RkS key (l.drop i) := h.sublist (List.drop_sublist _ _)
theorem PreM.part {U V : List Nat} (h : PreM key U V) (i j : Nat) : PreM key (U.take i) (V.take j) ∧ PreM key (U.drop i) (V.drop j) :=
  ⟨⟨h.1.take i, h.2.1.take j, fun u hu v hv => h.2.2 u (List.mem_of_mem_take hu) v (List.mem_of_mem_take hv)⟩,
   ⟨h.1.drop i, h.2.1.drop j, fun u hu v hv => h.2.2 u (List.mem_of_mem_drop hu) v (List.mem_of_mem_drop hv)⟩⟩
theorem mrg_split {U V W1 W2 : List Nat} (h : PreM key U V) {i j : Nat} (h1 : i = 0 ∨ V.length ≤ j ∨ key (U.getD (i - 1) 0) ≤ key (V.getD j 0)) (h2 : U.length ≤ i ∨ j = 0 ∨ key (V.getD (j - 1) 0) < key (U.getD i 0))
  (hi : i ≤ U.length) (hj : j ≤ V.length) (m1 : Mrg key (U.take i) (V.take j) W1) (m2 : Mrg key (U.drop i) (V.drop j) W2) : Mrg key U V (W1 ++ W2) := by
 refine ⟨?_, ?_⟩
 ·refine (m1.1.append m2.1).trans ?_
  have e1 : U ++ V = (U.take i ++ U.drop i) ++ (V.take j ++ V.drop j) := by rw [List.take_append_drop, List.take_append_drop]
  rw [e1, List.append_assoc, List.append_assoc]
  refine List.Perm.append_left _ ?_
  rw [← List.append_assoc, ← List.append_assoc]
  exact List.Perm.append_right _ List.perm_append_comm
 ·refine List.pairwise_append.2 ⟨m1.2, m2.2, fun a ha b hb => ?_⟩
  rw [m1.1.mem_iff, List.mem_append] at ha
  rw [m2.1.mem_iff, List.mem_append] at hb
  rcases ha with ha | ha <;> rcases hb with hb | hb <;> obtain ⟨x, hx, hxl, rfl⟩ := mem_take_get ha <;> obtain ⟨y, hy, hyl, rfl⟩ := mem_drop_get hb
  ·exact h.1.get (by omega) hyl
  ·have k1 := h.1.get_le (i := x) (j := i - 1) (by omega) (by omega)
   have k2 := h.2.1.get_le (i := j) (j := y) hy hyl
   have k3 : key (U.getD (i - 1) 0) ≤ key (V.getD j 0) := by
    rcases h1 with h1 | h1 | h1
    ·omega
    ·omega
    ·exact h1
   rcases Nat.lt_or_ge (key (U.getD x 0)) (key (V.getD y 0)) with k4 | k4
   ·exact .inl k4
   ·exact .inr ⟨by omega, h.2.2 _ (getD_mem hxl) _ (getD_mem hyl) (by omega)⟩
  ·have k1 := h.2.1.get_le (i := x) (j := j - 1) (by omega) (by omega)
   have k2 := h.1.get_le (i := i) (j := y) hy hyl
   have k3 : key (V.getD (j - 1) 0) < key (U.getD i 0) := by
    rcases h2 with h2 | h2 | h2
    ·omega
    ·omega
    ·exact h2
   exact .inl (by omega)
  ·exact h.2.1.get (by omega) hyl
theorem mrg_nil_left {V : List Nat} (h : RkS key V) : Mrg key [] V V := ⟨List.Perm.refl _, h⟩
theorem mrg_nil_right {U : List Nat} (h : RkS key U) : Mrg key U [] U := ⟨by simp, h⟩
theorem mrg_left {u : Nat} {V : List Nat} (h : PreM key [u] V) {i : Nat} (hi : i ≤ V.length) (h1 : i = 0 ∨ key (V.getD (i - 1) 0) < key u) (h2 : V.length ≤ i ∨ key u ≤ key (V.getD i 0)) : Mrg key [u] V (V.take i ++ u :: V.drop i) := by
 have m1 : Mrg key ([u].take 0) (V.take i) (V.take i) := mrg_nil_left (h.2.1.take i)
 have m2 : Mrg key ([u].drop 0) (V.drop i) (u :: V.drop i) := by
  refine ⟨List.Perm.refl _, List.pairwise_cons.2 ⟨fun b hb => ?_, h.2.1.drop i⟩⟩
  obtain ⟨y, hy, hyl, rfl⟩ := mem_drop_get hb
  have k2 := h.2.1.get_le (i := i) (j := y) hy hyl
  have k3 : key u ≤ key (V.getD i 0) := by
   rcases h2 with h2 | h2
   ·omega
   ·exact h2
  rcases Nat.lt_or_ge (key u) (key (V.getD y 0)) with k4 | k4
  ·exact .inl k4
  ·exact .inr ⟨by omega, h.2.2 u (by simp) _ (getD_mem hyl) (by omega)⟩
 refine mrg_split h (i := 0) (j := i) (.inl rfl) ?_ (Nat.zero_le _) hi m1 m2
 rcases h1 with h1 | h1
 ·exact .inr (.inl h1)
 ·exact .inr (.inr h1)
theorem mrg_right {v : Nat} {U : List Nat} (h : PreM key U [v]) {i : Nat} (hi : i ≤ U.length) (h1 : i = 0 ∨ key (U.getD (i - 1) 0) ≤ key v) (h2 : U.length ≤ i ∨ key v < key (U.getD i 0)) : Mrg key U [v] (U.take i ++ v :: U.drop i) := by
 have m1 : Mrg key (U.take i) ([v].take 0) (U.take i) := ⟨by simp, h.1.take i⟩
 have m2 : Mrg key (U.drop i) ([v].drop 0) (v :: U.drop i) := by
  refine ⟨(List.perm_append_comm (l₁ := [v]) (l₂ := U.drop i)), List.pairwise_cons.2 ⟨fun b hb => ?_, h.1.drop i⟩⟩
  obtain ⟨y, hy, hyl, rfl⟩ := mem_drop_get hb
  have k2 := h.1.get_le (i := i) (j := y) hy hyl
  have k3 : key v < key (U.getD i 0) := by
   rcases h2 with h2 | h2
   ·omega
   ·exact h2
  exact .inl (by omega)
 refine mrg_split h (i := i) (j := 0) ?_ (.inr (.inl rfl)) hi (Nat.zero_le _) m1 m2
 rcases h1 with h1 | h1
 ·exact .inl h1
 ·exact .inr (.inr h1)
theorem get_mid {α : Type} (A C : List α) (x : α) {i : Nat} (hi : i = A.length) : (A ++ x :: C)[i]? = some x := by subst hi; simp
theorem get_mid2 {α : Type} (A M C : List α) (x y : α) {i : Nat} (hi : i = A.length + 1 + M.length) : (A ++ x :: (M ++ y :: C))[i]? = some y := by
 subst hi
 rw [List.getElem?_append_right (by omega), show A.length + 1 + M.length - A.length = M.length + 1 by omega, List.getElem?_cons_succ, List.getElem?_append_right (Nat.le_refl _), Nat.sub_self]; rfl
theorem set_mid {α : Type} (A C : List α) (x y : α) {i : Nat} (hi : i = A.length) : (A ++ x :: C).set i y = A ++ y :: C := by
 subst hi; rw [List.set_append_right _ _ (Nat.le_refl _), Nat.sub_self]; rfl
theorem set_mid2 {α : Type} (A M C : List α) (x y z : α) {i : Nat} (hi : i = A.length + 1 + M.length) : (A ++ x :: (M ++ y :: C)).set i z = A ++ x :: (M ++ z :: C) := by
 have := set_mid (A ++ x :: M) C y z (i := i) (by simp; omega)
 simpa using this
theorem get_part {X U R : List Nat} {i a : Nat} (ha : X.length = a) (hi : i < U.length) : (X ++ (U ++ R))[a + i]? = some (U.getD i 0) := by
 subst ha
 rw [List.getElem?_append_right (by omega), Nat.add_sub_cancel_left, List.getElem?_append_left hi, getD_eq hi]; simp [hi]
theorem get_part2 {X U V R : List Nat} {i a : Nat} (ha : X.length + U.length = a) (hi : i < V.length) : (X ++ (U ++ (V ++ R)))[a + i]? = some (V.getD i 0) := by
 have := get_part (X := X ++ U) (U := V) (R := R) (i := i) (a := a) (by simpa using ha) hi
 rwa [List.append_assoc] at this
theorem take_snoc {l : List Nat} {i : Nat} (hi : i < l.length) : l.take (i + 1) = l.take i ++ [l.getD i 0] := by rw [getD_eq hi]; exact List.take_succ_eq_append_getElem hi
theorem drop_cons {l : List Nat} {i : Nat} (hi : i < l.length) : l.drop i = l.getD i 0 :: l.drop (i + 1) := by rw [getD_eq hi]; exact List.drop_eq_getElem_cons hi
def blk (B k : Nat) (l : List Nat) : List Nat := (l.drop (k * B)).take B
theorem blk_double (B k : Nat) (l : List Nat) : blk (2 * B) k l = blk B (2 * k) l ++ blk B (2 * k + 1) l := by
 unfold blk
 rw [Nat.two_mul B, List.take_add, List.drop_drop, show k * (B + B) = 2 * k * B by rw [Nat.mul_add, Nat.mul_comm 2 k, Nat.mul_assoc, Nat.two_mul, Nat.mul_add], show 2 * k * B + B = (2 * k + 1) * B by rw [Nat.add_mul, Nat.one_mul]]
theorem blk_here {B k : Nat} {X M Y : List Nat} (hX : X.length = k * B) (hM : M.length ≤ B) (hY : M.length = B ∨ Y = []) : blk B k (X ++ (M ++ Y)) = M := by
 unfold blk
 rw [← hX, List.drop_append_of_le_length (Nat.le_refl _), List.drop_length, List.nil_append]
 rcases hY with h | rfl
 ·rw [List.take_append_of_le_length (by omega), List.take_of_length_le (by omega)]
 ·rw [List.append_nil, List.take_of_length_le hM]
theorem blk_other {B k k' : Nat} {X M M' Y : List Nat} (hX : X.length = k * B) (hl : M'.length = M.length) (hM : M.length ≤ B) (hY : M.length = B ∨ Y = []) (hk : k' ≠ k) : blk B k' (X ++ (M' ++ Y)) = blk B k' (X ++ (M ++ Y)) := by
 unfold blk
 rcases Nat.lt_or_ge k' k with h | h
 ·have h1 : (k' + 1) * B ≤ k * B := Nat.mul_le_mul_right _ h
  rw [Nat.add_mul, Nat.one_mul] at h1
  rw [List.drop_append_of_le_length (by omega), List.drop_append_of_le_length (by omega), List.take_append_of_le_length (by rw [List.length_drop]; omega), List.take_append_of_le_length (by rw [List.length_drop]; omega)]
 ·have h1 : (k + 1) * B ≤ k' * B := Nat.mul_le_mul_right _ (by omega)
  rw [Nat.add_mul, Nat.one_mul] at h1
  have e : ∀ Z : List Nat, Z.length = M.length → (X ++ (Z ++ Y)).drop (k' * B) = Y.drop (k' * B - X.length - M.length) := fun Z hZ => by
   rcases hY with h2 | rfl
   ·rw [List.drop_append, List.drop_of_length_le (by omega), List.nil_append, List.drop_append, List.drop_of_length_le (by omega), List.nil_append, hZ]
   ·rw [List.append_nil, List.drop_of_length_le (by simp; omega), List.drop_nil]
  rw [e M' hl, e M rfl]
theorem blk_out {B k : Nat} {l : List Nat} (h : l.length ≤ k * B) : blk B k l = [] := by unfold blk; rw [List.drop_of_length_le h, List.take_nil]
theorem blk_all {B : Nat} {l : List Nat} (h : l.length ≤ B) : blk B 0 l = l := by unfold blk; rw [Nat.zero_mul, List.drop_zero, List.take_of_length_le h]
def BOK (key : Nat → Nat) (B : Nat) (l l0 : List Nat) (k : Nat) : Prop := (blk B k l).Perm (blk B k l0) ∧ RkS key (blk B k l)
theorem cut3 (l : List Nat) (a s : Nat) : l = l.take a ++ ((l.drop a).take s ++ l.drop (a + s)) := by
 rw [← List.drop_drop, List.take_append_drop, List.take_append_drop]
theorem blk_away {B k : Nat} {X M M' Y : List Nat} (hl : M'.length = M.length) (h : X.length + M.length ≤ k * B ∨ (k + 1) * B ≤ X.length) : blk B k (X ++ (M' ++ Y)) = blk B k (X ++ (M ++ Y)) := by
 unfold blk
 rcases h with h | h
 ·have e : ∀ Z : List Nat, Z.length = M.length → (X ++ (Z ++ Y)).drop (k * B) = Y.drop (k * B - X.length - M.length) := fun Z hZ => by
   rw [List.drop_append, List.drop_of_length_le (by omega), List.nil_append, List.drop_append, List.drop_of_length_le (by omega), List.nil_append, hZ]
  rw [e M' hl, e M rfl]
 ·rw [Nat.add_mul, Nat.one_mul] at h
  rw [List.drop_append_of_le_length (by omega), List.drop_append_of_le_length (by omega), List.take_append_of_le_length (by rw [List.length_drop]; omega), List.take_append_of_le_length (by rw [List.length_drop]; omega)]
theorem mem_blk {B k x : Nat} {l : List Nat} (h : x ∈ blk B k l) : x ∈ l := List.mem_of_mem_drop (List.mem_of_mem_take h)
theorem blk_length {B k : Nat} {l : List Nat} : (blk B k l).length = min B (l.length - k * B) := by unfold blk; rw [List.length_take, List.length_drop]
theorem BOK.out {B k : Nat} {l l0 : List Nat} (hl : l.length = l0.length) (h : l.length ≤ k * B) : BOK key B l l0 k := by
 unfold BOK
 rw [blk_out h, blk_out (by omega)]
 exact ⟨List.Perm.refl _, List.Pairwise.nil⟩
theorem BOK.put {B k : Nat} {X M M' Y l0 : List Nat} (hX : X.length = k * B) (hM : M.length ≤ B) (hY : M.length = B ∨ Y = []) (hp : M'.Perm (blk B k l0)) (hl : M'.length = M.length) (hs : RkS key M') : BOK key B (X ++ (M' ++ Y)) l0 k := by
 unfold BOK
 rw [blk_here hX (by omega) (hY.imp (fun h => by omega) id)]
 exact ⟨hp, hs⟩
theorem BOK.keep {B k : Nat} {X M M' Y l0 : List Nat} (hl : M'.length = M.length) (h : X.length + M.length ≤ k * B ∨ (k + 1) * B ≤ X.length) (hk : BOK key B (X ++ (M ++ Y)) l0 k) : BOK key B (X ++ (M' ++ Y)) l0 k := by
 unfold BOK at *
 rwa [blk_away hl h]
theorem BOK.double {B k : Nat} {l l0 : List Nat} (hl : l.length = l0.length) (h : l.length ≤ (2 * k + 1) * B) (h1 : BOK key B l l0 (2 * k)) : BOK key (2 * B) l l0 k := by
 unfold BOK at *
 rw [blk_double, blk_double, blk_out (k := 2 * k + 1) h, blk_out (k := 2 * k + 1) (by omega), List.append_nil, List.append_nil]
 exact h1
theorem preM_blk {B k : Nat} {l l0 : List Nat} (hlt : l0.Pairwise (· < ·)) (h1 : BOK key B l l0 (2 * k)) (h2 : BOK key B l l0 (2 * k + 1)) : PreM key (blk B (2 * k) l) (blk B (2 * k + 1) l) := by
 refine ⟨h1.2, h2.2, fun u hu v hv _ => ?_⟩
 rw [h1.1.mem_iff] at hu
 rw [h2.1.mem_iff] at hv
 have h3 : (blk (2 * B) k l0).Pairwise (· < ·) := hlt.sublist ((List.take_sublist _ _).trans (List.drop_sublist _ _))
 rw [blk_double] at h3
 exact (List.pairwise_append.1 h3).2.2 u hu v hv
theorem rk_unique : ∀ {l m : List Nat}, RkS key l → RkS key m → l.Perm m → l = m
 | [], m, _, _, hp => hp.nil_eq
 | a :: l, [], _, _, hp => by have := hp.length_eq; simp at this
 | a :: l, b :: m, hl, hm, hp => by
  obtain ⟨h1, h2⟩ := List.pairwise_cons.1 hl
  obtain ⟨h3, h4⟩ := List.pairwise_cons.1 hm
  have hab : a = b := by
   have ha : a ∈ b :: m := hp.mem_iff.1 (by simp)
   have hb : b ∈ a :: l := hp.mem_iff.2 (by simp)
   rcases List.mem_cons.1 ha with rfl | ha
   ·rfl
   ·rcases List.mem_cons.1 hb with rfl | hb
    ·rfl
    ·have k1 := h1 b hb
     have k2 := h3 a ha
     unfold Rk at k1 k2; omega
  subst hab
  rw [rk_unique h2 h4 (List.Perm.cons_inv hp)]
end Go.Bn
end

section
set_option linter.unusedVariables false
set_option linter.unusedSimpArgs false
set_option maxHeartbeats 4000000
set_option maxRecDepth 20000
namespace Go.Bn
open Go Proofs
@[reducible] def rowN (g n c : Nat) (l : List Nat) : Res := Bn.row 3 1 (.slice (some ⟨g, 0, none⟩) n c) (l.map nV)
theorem St.natAt {B g n c i x : Nat} {l : List Nat} {F : List Res} {hb h0 : Heap} (st : St B hb h0 (rowN g n c l :: F)) (h : l[i]? = some x) : cellH h0 ⟨g, 0 + i, none⟩ = some (nV x) := by
 obtain ⟨A, n', c', he, _, _, _, hrd⟩ := st.row 0 rfl
 cases he
 have hi := (List.getElem?_eq_some_iff.1 h).1
 obtain ⟨b, o, he2, hc⟩ := hrd.at_ (by rw [List.length_map]; omega)
 cases he2
 exact hc i (nV x) (by rw [List.getElem?_map, h]; rfl)
theorem St.natLen {B g n c : Nat} {l : List Nat} {F : List Res} {hb h0 : Heap} (st : St B hb h0 (rowN g n c l :: F)) : l.length = n := by
 obtain ⟨A, n', c', he, hl, _⟩ := st.row 0 rfl
 cases he
 simpa using hl
theorem swap_map {A M C : List Nat} {p q i j : Nat} (hi : i = A.length) (hj : j = A.length + 1 + M.length) : (((A ++ p :: (M ++ q :: C)).map nV).set i (nV q)).set j (nV p) = (A ++ q :: (M ++ p :: C)).map nV := by
 rw [← List.map_set, ← List.map_set, set_mid _ _ _ _ hi, set_mid2 _ _ _ _ _ _ hj]
theorem swap_map' {A M C : List Nat} {p q i j : Nat} (hi : i = A.length) (hj : j = A.length + 1 + M.length) : (((A ++ p :: (M ++ q :: C)).map nV).set j (nV p)).set i (nV q) = (A ++ q :: (M ++ p :: C)).map nV := by
 rw [← List.map_set, ← List.map_set, set_mid2 _ _ _ _ _ _ hj, set_mid _ _ _ _ hi]
theorem swapRange_spec {B g n c a b s : Nat} {X P M Q Y : List Nat} {fn : Value} {F : List Res} {h0 : Heap} (st0 : St B h0 h0 (rowN g n c (X ++ (P ++ (M ++ (Q ++ Y)))) :: F)) (ha : X.length = a) (hb : X.length + P.length + M.length = b) (hp : P.length = s) (hq : Q.length = s) (hn : n ≤ 1099511627776) :
  Ret Try.prog 142 [.slice (some ⟨g, 0, none⟩) n c, nV a, nV b, nV s, fn] h0 fun _ h' => St B h0 h' (rowN g n c (X ++ (Q ++ (M ++ (P ++ Y)))) :: F) := by
 have hln := st0.natLen
 simp only [List.length_append] at hln
 refine ret_of_X Try.func142 rfl rfl fun w0 hw0 => ?_
 simp only [argE, Nat.zero_add, Nat.reduceAdd]
 refine X_seq (X_reg (XA rfl rfl rfl (XR_nil (X_block ?_))))
 refine X_loop (fun i => s - i) (fun i => [(0, .slice (some ⟨g, 0, none⟩) n c), (1, nV a), (2, nV b), (3, nV s), (10, nV i)])
  (fun (i : Nat) hp => St B h0 hp (rowN g n c (X ++ ((Q.take i ++ P.drop i) ++ (M ++ ((P.take i ++ Q.drop i) ++ Y)))) :: F) ∧ i ≤ s)
  0 (.cons rfl (.cons rfl (.cons rfl (.cons rfl (.cons rfl (.nil _)))))) ⟨by simpa using st0, by omega⟩ ?_
 rintro i hp ⟨st, hi⟩
 refine X_seq (X_seq (X_reg (XV rfl rfl rfl (XV rfl rfl rfl ?_))))
 refine XR_a (op_lss rfl rfl) rfl rfl ?_
 refine XR_nil ?_
 refine X_if rfl (fun h => ?_) (fun h => ?_)
 ·have hiP : i < P.length := by omega
  have hiQ : i < Q.length := by omega
  have e1 : X ++ ((Q.take i ++ P.drop i) ++ (M ++ ((P.take i ++ Q.drop i) ++ Y))) = (X ++ Q.take i) ++ P.getD i 0 :: ((P.drop (i + 1) ++ (M ++ P.take i)) ++ Q.getD i 0 :: (Q.drop (i + 1) ++ Y)) := by
   rw [drop_cons hiP, drop_cons hiQ]; simp
  have e2 : X ++ ((Q.take (i + 1) ++ P.drop (i + 1)) ++ (M ++ ((P.take (i + 1) ++ Q.drop (i + 1)) ++ Y))) = (X ++ Q.take i) ++ Q.getD i 0 :: ((P.drop (i + 1) ++ (M ++ P.take i)) ++ P.getD i 0 :: (Q.drop (i + 1) ++ Y)) := by
   rw [take_snoc hiP, take_snoc hiQ]; simp
  have hia : a + i = (X ++ Q.take i).length := by rw [List.length_append, List.length_take]; omega
  have hib : b + i = (X ++ Q.take i).length + 1 + (P.drop (i + 1) ++ (M ++ P.take i)).length := by simp only [List.length_append, List.length_take, List.length_drop]; omega
  rw [e1] at st
  refine X_skip (X_seq (X_block ?_))
  refine X_draw (butAt [(7, .pure)]) (by kernel_rfl) (by kernel_rfl) ?_
  refine XV rfl rfl rfl (XV rfl rfl rfl (XV rfl rfl rfl ?_))
  first | refine XR_a (op_addN rfl rfl (by simp only [inK]; omega)) rfl rfl ?_ | refine XR_a (op_addI rfl rfl (by simp only [inK]; omega)) rfl rfl ?_ | refine XR_a (op_add rfl rfl) rfl rfl ?_
  refine XV rfl rfl rfl (XV rfl rfl rfl (XV rfl rfl rfl ?_))
  first | refine XR_a (op_addN rfl rfl (by simp only [inK]; omega)) rfl rfl ?_ | refine XR_a (op_addI rfl rfl (by simp only [inK]; omega)) rfl rfl ?_ | refine XR_a (op_add rfl rfl) rfl rfl ?_
  refine XV rfl rfl rfl (XV rfl rfl rfl (XV rfl rfl rfl ?_))
  first | refine XR_a (op_addN rfl rfl (by simp only [inK]; omega)) rfl rfl ?_ | refine XR_a (op_addI rfl rfl (by simp only [inK]; omega)) rfl rfl ?_ | refine XR_a (op_add rfl rfl) rfl rfl ?_
  first | refine XR_a (op_index1 rfl rfl rfl (by omega)) rfl rfl ?_ | refine XR_a (op_index rfl rfl rfl (by omega)) rfl rfl ?_
  refine XR_a (op_ld (st.natAt (get_mid2 _ _ _ _ _ hib)) rfl rfl rfl) rfl rfl ?_
  refine XV rfl rfl rfl (XV rfl rfl rfl (XV rfl rfl rfl ?_))
  first | refine XR_a (op_addN rfl rfl (by simp only [inK]; omega)) rfl rfl ?_ | refine XR_a (op_addI rfl rfl (by simp only [inK]; omega)) rfl rfl ?_ | refine XR_a (op_add rfl rfl) rfl rfl ?_
  first | refine XR_a (op_index1 rfl rfl rfl (by omega)) rfl rfl ?_ | refine XR_a (op_index rfl rfl rfl (by omega)) rfl rfl ?_
  refine XR_a (op_ld (st.natAt (get_mid _ _ _ hia)) rfl rfl rfl) rfl rfl ?_
  first | refine XR_a (op_index1 rfl rfl rfl (by omega)) rfl rfl ?_ | refine XR_a (op_index rfl rfl rfl (by omega)) rfl rfl ?_
  refine XR_wn (opl_store_row (i := a + i) st 0 rfl rfl rfl (by simp only [List.length_map, List.length_append, List.length_cons, List.length_take, List.length_drop]; omega) rfl rfl) rfl rfl fun _ hp st => ?_
  simp only [List.set_cons_zero] at st
  first | refine XR_a (op_index1 rfl rfl rfl (by omega)) rfl rfl ?_ | refine XR_a (op_index rfl rfl rfl (by omega)) rfl rfl ?_
  refine XR_wn (opl_store_row (i := b + i) st 0 rfl rfl rfl (by simp only [List.length_set, List.length_map, List.length_append, List.length_cons, List.length_take, List.length_drop]; omega) rfl rfl) rfl rfl fun _ hp st => ?_
  simp only [List.set_cons_zero] at st
  rw [swap_map hia hib, ← e2] at st
  refine XR_nil (X_blk (X_reg (XV rfl rfl rfl ?_)))
  first | refine XR_a (op_addN (n := 1) rfl rfl (by simp only [inK]; omega)) rfl rfl ?_ | refine XR_a (op_addI rfl rfl (by simp only [inK]; omega)) rfl rfl ?_ | refine XR_a (op_add rfl rfl) rfl rfl ?_
  refine XA rfl rfl rfl (XR_nil ?_)
  exact X_again (i + 1) (.cons rfl (.cons rfl (.cons rfl (.cons rfl (.cons rfl (.nil _)))))) ⟨st, by omega⟩ (by omega)
 ·refine X_exit rfl ?_
  refine X_end .nil ?_
  obtain rfl : i = s := by omega
  rw [List.take_of_length_le (by omega), List.take_of_length_le (by omega), List.drop_of_length_le (by omega), List.drop_of_length_le (by omega), List.append_nil, List.append_nil] at st
  exact st
theorem rotate_spec {B g n c a m b : Nat} {X U V Y : List Nat} {fn : Value} {F : List Res} {h0 : Heap} (st0 : St B h0 h0 (rowN g n c (X ++ (U ++ (V ++ Y))) :: F)) (ha : X.length = a) (hm : X.length + U.length = m) (hb : m + V.length = b) (hu : 1 ≤ U.length) (hv : 1 ≤ V.length) (hn : n ≤ 1099511627776) :
  Ret Try.prog 141 [.slice (some ⟨g, 0, none⟩) n c, nV a, nV m, nV b, fn] h0 fun _ h' => St B h0 h' (rowN g n c (X ++ (V ++ (U ++ Y))) :: F) := by
 have hln := st0.natLen
 simp only [List.length_append] at hln
 refine ret_of_X Try.func141 rfl rfl fun w0 hw0 => ?_
 simp only [argE, Nat.zero_add, Nat.reduceAdd]
 refine X_seq (X_reg (XV rfl rfl rfl (XV rfl rfl rfl ?_)))
 first | refine XR_a (op_subN rfl rfl (by omega) (by simp only [inK]; omega)) rfl rfl ?_ | refine XR_a (op_subI rfl rfl (by simp only [inK]; omega)) rfl rfl ?_ | refine XR_a (op_sub rfl rfl) rfl rfl ?_
 refine XA rfl rfl rfl (XR_nil (X_seq (X_reg (XV rfl rfl rfl (XV rfl rfl rfl ?_)))))
 first | refine XR_a (op_subN rfl rfl (by omega) (by simp only [inK]; omega)) rfl rfl ?_ | refine XR_a (op_subI rfl rfl (by simp only [inK]; omega)) rfl rfl ?_ | refine XR_a (op_sub rfl rfl) rfl rfl ?_
 refine XA rfl rfl rfl (XR_nil (X_seq (X_block ?_)))
 refine X_loop (fun s => s.2.1.length + s.2.2.1.length) (fun s => [(0, .slice (some ⟨g, 0, none⟩) n c), (2, nV m), (4, fn), (10, nV s.2.1.length), (11, nV s.2.2.1.length)])
  (fun (s : List Nat × List Nat × List Nat × List Nat) hp => St B h0 hp (rowN g n c (s.1 ++ (s.2.1 ++ (s.2.2.1 ++ s.2.2.2))) :: F) ∧ s.1.length + s.2.1.length = m ∧ 1 ≤ s.2.1.length ∧ 1 ≤ s.2.2.1.length ∧ m + s.2.2.1.length ≤ n ∧ s.1 ++ (s.2.2.1 ++ (s.2.1 ++ s.2.2.2)) = X ++ (V ++ (U ++ Y)))
  (X, U, V, Y) (.cons rfl (.cons rfl (.cons rfl (.cons (by simp only; rw [show m - a = U.length by omega]; rfl) (.cons (by simp only; rw [show b - m = V.length by omega]; rfl) (.nil _)))))) ⟨st0, hm, hu, hv, by simp only; omega, rfl⟩ ?_
 rintro ⟨x, u, v, y⟩ hp ⟨st, hxm, hu1, hv1, hvn, hT⟩
 simp only at st hxm hu1 hv1 hvn hT ⊢
 refine X_seq (X_seq (X_reg (XV rfl rfl rfl (XV rfl rfl rfl ?_))))
 refine XR_a (op_neq rfl rfl) rfl rfl ?_
 refine XR_nil ?_
 refine X_if rfl (fun h => ?_) (fun h => ?_)
 ·refine X_skip (X_block (X_seq (X_reg (XV rfl rfl rfl (XV rfl rfl rfl ?_)))))
  refine XR_a (op_gtr rfl rfl) rfl rfl ?_
  refine XR_nil ?_
  refine X_if rfl (fun h => ?_) (fun h => ?_)
  ·refine X_seq (X_reg (XV rfl rfl rfl (XV rfl rfl rfl (XV rfl rfl rfl ?_))))
   first | refine XR_a (op_subN rfl rfl (by omega) (by simp only [inK]; omega)) rfl rfl ?_ | refine XR_a (op_subI rfl rfl (by simp only [inK]; omega)) rfl rfl ?_ | refine XR_a (op_sub rfl rfl) rfl rfl ?_
   refine XV rfl rfl rfl (XV rfl rfl rfl (XV rfl rfl rfl ?_))
   refine XR_wa (opl_call (swapRange_spec (X := x) (P := u.take v.length) (M := u.drop v.length) (Q := v) (Y := y) (a := m - u.length) (b := m) (s := v.length) (by have h1 := st.here; rw [← List.append_assoc (u.take _), List.take_append_drop]; exact h1) (by omega) (by rw [List.length_take, List.length_drop]; omega) (by rw [List.length_take]; omega) rfl (by omega)) rfl (by kernel_rfl)) rfl rfl rfl ?_
   rintro _ hp st2
   replace st := st.trans st2
   refine XR_nil (X_reg (XV rfl rfl rfl (XV rfl rfl rfl ?_)))
   first | refine XR_a (op_subN rfl rfl (by omega) (by simp only [inK]; omega)) rfl rfl ?_ | refine XR_a (op_subI rfl rfl (by simp only [inK]; omega)) rfl rfl ?_ | refine XR_a (op_sub rfl rfl) rfl rfl ?_
   refine XA rfl rfl rfl (XR_nil (X_blk ?_))
   refine X_again (x ++ v, u.drop v.length, u.take v.length, y) (.cons rfl (.cons rfl (.cons rfl (.cons (by simp only [List.length_drop]; rfl) (.cons (by simp only [List.length_take]; rw [Nat.min_eq_left (by omega)]; rfl) (.nil _)))))) ⟨by simpa using st, ?_, ?_, ?_, ?_, ?_⟩ ?_
   ·simp only [List.length_append, List.length_drop]; omega
   ·simp only [List.length_drop]; omega
   ·simp only [List.length_take]; omega
   ·simp only [List.length_take]; omega
   ·simp only
    rw [← List.append_assoc (u.take _), List.take_append_drop, List.append_assoc]; exact hT
   ·simp only [List.length_take, List.length_drop]; omega
  ·refine X_seq (X_reg (XV rfl rfl rfl (XV rfl rfl rfl (XV rfl rfl rfl ?_))))
   first | refine XR_a (op_subN rfl rfl (by omega) (by simp only [inK]; omega)) rfl rfl ?_ | refine XR_a (op_subI rfl rfl (by simp only [inK]; omega)) rfl rfl ?_ | refine XR_a (op_sub rfl rfl) rfl rfl ?_
   refine XV rfl rfl rfl (XV rfl rfl rfl ?_)
   first | refine XR_a (op_addN rfl rfl (by simp only [inK]; omega)) rfl rfl ?_ | refine XR_a (op_addI rfl rfl (by simp only [inK]; omega)) rfl rfl ?_ | refine XR_a (op_add rfl rfl) rfl rfl ?_
   refine XV rfl rfl rfl ?_
   first | refine XR_a (op_subN rfl rfl (by omega) (by simp only [inK]; omega)) rfl rfl ?_ | refine XR_a (op_subI rfl rfl (by simp only [inK]; omega)) rfl rfl ?_ | refine XR_a (op_sub rfl rfl) rfl rfl ?_
   refine XV rfl rfl rfl (XV rfl rfl rfl ?_)
   refine XR_wa (opl_call (swapRange_spec (X := x) (P := u) (M := v.take (v.length - u.length)) (Q := v.drop (v.length - u.length)) (Y := y) (a := m - u.length) (b := m + v.length - u.length) (s := u.length) (by have h1 := st.here; rw [← List.append_assoc (v.take _), List.take_append_drop]; exact h1) (by omega) (by rw [List.length_take]; omega) rfl (by rw [List.length_drop]; omega) (by omega)) rfl (by kernel_rfl)) rfl rfl rfl ?_
   rintro _ hp st2
   replace st := st.trans st2
   refine XR_nil (X_reg (XV rfl rfl rfl (XV rfl rfl rfl ?_)))
   first | refine XR_a (op_subN rfl rfl (by omega) (by simp only [inK]; omega)) rfl rfl ?_ | refine XR_a (op_subI rfl rfl (by simp only [inK]; omega)) rfl rfl ?_ | refine XR_a (op_sub rfl rfl) rfl rfl ?_
   refine XA rfl rfl rfl (XR_nil (X_blk ?_))
   refine X_again (x, v.drop (v.length - u.length), v.take (v.length - u.length), u ++ y) (.cons rfl (.cons rfl (.cons rfl (.cons (by simp only [List.length_drop]; rw [show v.length - (v.length - u.length) = u.length by omega]; rfl) (.cons (by simp only [List.length_take]; rw [Nat.min_eq_left (by omega)]; rfl) (.nil _)))))) ⟨st, ?_, ?_, ?_, ?_, ?_⟩ ?_
   ·simp only [List.length_drop]; omega
   ·simp only [List.length_drop]; omega
   ·simp only [List.length_take]; omega
   ·simp only [List.length_take]; omega
   ·simp only
    rw [← List.append_assoc (v.take _), List.take_append_drop]; exact hT
   ·simp only [List.length_take, List.length_drop]; omega
 ·refine X_exit rfl (X_reg (XV rfl rfl rfl (XV rfl rfl rfl (XV rfl rfl rfl ?_))))
  first | refine XR_a (op_subN rfl rfl (by omega) (by simp only [inK]; omega)) rfl rfl ?_ | refine XR_a (op_subI rfl rfl (by simp only [inK]; omega)) rfl rfl ?_ | refine XR_a (op_sub rfl rfl) rfl rfl ?_
  refine XV rfl rfl rfl (XV rfl rfl rfl (XV rfl rfl rfl ?_))
  refine XR_wa (opl_call (swapRange_spec (X := x) (P := u) (M := []) (Q := v) (Y := y) (a := m - u.length) (b := m) (s := u.length) st.here (by omega) (by simp; omega) rfl (by omega) (by omega)) rfl (by kernel_rfl)) rfl rfl rfl ?_
  rintro _ hp st2
  replace st := st.trans st2
  refine XR_nil ?_
  refine X_end .nil ?_
  rw [← hT]; exact st
def CmpOK (B : Nat) (h0 : Heap) (F : List Res) (k : Nat) (caps : Array Value) (key : Nat → Nat) (good : Nat → Prop) : Prop :=
  callOk Try.prog k = true ∧ ∀ (r : Res) (h' : Heap), St B h0 h' (r :: F) → ∀ x y, good x → good y → Ret Try.prog k (nV x :: nV y :: caps.toList) h' fun v h'' => v = .int .i64 (cmpI (key x) (key y)) ∧ h' = h''
theorem CmpOK.here {B k : Nat} {h0 hp : Heap} {r : Res} {F : List Res} {caps : Array Value} {key : Nat → Nat} {good : Nat → Prop} (h : CmpOK B h0 F k caps key good) (st : St B h0 hp (r :: F)) : CmpOK B hp F k caps key good :=
 ⟨h.1, fun r' h' s => h.2 r' h' (st.trans s)⟩
theorem insertion_spec {B g n c a b k : Nat} {X M Y : List Nat} {caps : Array Value} {key : Nat → Nat} {good : Nat → Prop} {F : List Res} {h0 : Heap} (st0 : St B h0 h0 (rowN g n c (X ++ (M ++ Y)) :: F)) (hcmp : CmpOK B h0 F k caps key good)
  (ha : X.length = a) (hb : X.length + M.length = b) (hM : M.Pairwise (· < ·)) (hg : ∀ x ∈ M, good x) (hn : n ≤ 1099511627776) :
  Ret Try.prog 137 [.slice (some ⟨g, 0, none⟩) n c, nV a, nV b, .func (.func k) #[] caps] h0 fun _ h' => ∃ M', M'.Perm M ∧ RkS key M' ∧ St B h0 h' (rowN g n c (X ++ (M' ++ Y)) :: F) := by
 have hln := st0.natLen
 simp only [List.length_append] at hln
 refine ret_of_X Try.func137 rfl rfl fun w0 hw0 => ?_
 simp only [argE, Nat.zero_add, Nat.reduceAdd]
 refine X_seq (X_reg (XV rfl rfl rfl ?_))
 first | refine XR_a (op_addN (n := 1) rfl rfl (by simp only [inK]; omega)) rfl rfl ?_ | refine XR_a (op_addI rfl rfl (by simp only [inK]; omega)) rfl rfl ?_ | refine XR_a (op_add rfl rfl) rfl rfl ?_
 refine XA rfl rfl rfl (XR_nil (X_block ?_))
 refine X_loop (fun s => M.length - s.1) (fun s => [(0, .slice (some ⟨g, 0, none⟩) n c), (1, nV a), (2, nV b), (3, .func (.func k) #[] caps), (8, nV (a + s.1))])
  (fun (s : Nat × List Nat) hp => 1 ≤ s.1 ∧ s.2.Perm (M.take s.1) ∧ RkS key s.2 ∧ St B h0 hp (rowN g n c (X ++ (s.2 ++ (M.drop s.1 ++ Y))) :: F))
  (1, M.take 1) (.cons rfl (.cons rfl (.cons rfl (.cons rfl (.cons rfl (.nil _)))))) ⟨Nat.le_refl _, List.Perm.refl _, ?_, by simp only; rw [← List.append_assoc (M.take _), List.take_append_drop]; exact st0⟩ ?_
 ·cases M with
  | nil => simp
  | cons x M => simp
 rintro ⟨i, S⟩ hp ⟨hi1, hS, hSs, st⟩
 simp only at hi1 hS hSs st ⊢
 refine X_seq (X_seq (X_reg (XV rfl rfl rfl (XV rfl rfl rfl ?_))))
 refine XR_a (op_lss rfl rfl) rfl rfl ?_
 refine XR_nil ?_
 refine X_if rfl (fun h => ?_) (fun h => ?_)
 ·refine X_skip (X_seq (X_block (X_seq (X_reg (XV rfl rfl rfl (XA rfl rfl rfl (XR_nil (X_block ?_))))))))
  have hiM : i < M.length := by omega
  have hSl : S.length = i := by rw [hS.length_eq, List.length_take]; omega
  have htk := take_snoc hiM
  rw [drop_cons hiM] at st
  have hgx := hg _ (getD_mem hiM)
  have hpre : PreM key S [M.getD i 0] := by
   refine ⟨hSs, by simp, fun u hu v hv _ => ?_⟩
   obtain rfl : v = M.getD i 0 := by simpa using hv
   rw [hS.mem_iff] at hu
   obtain ⟨j, hj, hjl, rfl⟩ := mem_take_get hu
   rw [getD_eq hjl, getD_eq hiM]
   exact List.pairwise_iff_getElem.1 hM j i hjl hiM hj
  have hgS : ∀ p, p < S.length → good (S.getD p 0) := fun p hp => hg _ (List.mem_of_mem_take (hS.mem_iff.1 (getD_mem hp)))
  obtain ⟨x, hx⟩ : ∃ x, M.getD i 0 = x := ⟨_, rfl⟩
  rw [hx] at st hgx hpre htk
  refine X_loop (fun p => p) (fun p => [(0, .slice (some ⟨g, 0, none⟩) n c), (1, nV a), (2, nV b), (3, .func (.func k) #[] caps), (8, nV (a + i)), (9, nV (a + p))])
   (fun (p : Nat) hp => p ≤ S.length ∧ (S.length ≤ p ∨ key x < key (S.getD p 0)) ∧ St B h0 hp (rowN g n c (X ++ (S.take p ++ x :: (S.drop p ++ (M.drop (i + 1) ++ Y)))) :: F))
   S.length (.cons rfl (.cons rfl (.cons rfl (.cons rfl (.cons rfl (.cons (by rw [hSl]; rfl) (.nil _))))))) ⟨Nat.le_refl _, .inl (Nat.le_refl _), by rw [List.take_of_length_le (Nat.le_refl _), List.drop_of_length_le (Nat.le_refl _)]; exact st⟩ ?_
  clear st
  rintro p hp ⟨hpS, hpk, st⟩
  have hfin : (p = 0 ∨ key (S.getD (p - 1) 0) ≤ key x) → 1 ≤ i + 1 ∧ (S.take p ++ x :: S.drop p).Perm (M.take (i + 1)) ∧ RkS key (S.take p ++ x :: S.drop p) ∧ St B h0 hp (rowN g n c (X ++ ((S.take p ++ x :: S.drop p) ++ (M.drop (i + 1) ++ Y))) :: F) := fun h1 => by
   obtain ⟨m1, m2⟩ := mrg_right hpre hpS h1 hpk
   refine ⟨by omega, m1.trans ?_, m2, by simpa using st⟩
   rw [htk]; exact hS.append_right _
  refine X_seq (X_seq ?_)
  refine X_draw byKind (by kernel_rfl) (by kernel_rfl) ?_
  refine XV rfl rfl rfl (XV rfl rfl rfl ?_)
  refine XR_a (op_gtr rfl rfl) rfl rfl ?_
  refine XV rfl rfl rfl ?_
  refine XR_if 21 rfl (fun h => ?_) (fun h => ?_)
  ·have hp1 : p - 1 < S.length := by omega
   have e1 : X ++ (S.take p ++ x :: (S.drop p ++ (M.drop (i + 1) ++ Y))) = (X ++ S.take (p - 1)) ++ S.getD (p - 1) 0 :: ([] ++ x :: (S.drop p ++ (M.drop (i + 1) ++ Y))) := by
    have := take_snoc hp1
    rw [show p - 1 + 1 = p by omega] at this
    rw [this]; simp
   have e2 : X ++ (S.take (p - 1) ++ x :: (S.drop (p - 1) ++ (M.drop (i + 1) ++ Y))) = (X ++ S.take (p - 1)) ++ x :: ([] ++ S.getD (p - 1) 0 :: (S.drop p ++ (M.drop (i + 1) ++ Y))) := by
    have := drop_cons hp1
    rw [show p - 1 + 1 = p by omega] at this
    rw [this]; simp
   have hia : a + p - 1 = (X ++ S.take (p - 1)).length := by rw [List.length_append, List.length_take]; omega
   have hib : a + p = (X ++ S.take (p - 1)).length + 1 + ([] : List Nat).length := by rw [List.length_append, List.length_take, List.length_nil]; omega
   rw [e1] at st
   refine XV rfl rfl rfl (XV rfl rfl rfl (XV rfl rfl rfl ?_))
   first | refine XR_a (op_index1 rfl rfl rfl (by omega)) rfl rfl ?_ | refine XR_a (op_index rfl rfl rfl (by omega)) rfl rfl ?_
   refine XR_a (op_ld (st.natAt (get_mid2 _ _ _ _ _ hib)) rfl rfl rfl) rfl rfl ?_
   refine XV rfl rfl rfl (XV rfl rfl rfl ?_)
   first | refine XR_a (op_subN (n := 1) rfl rfl (by omega) (by simp only [inK]; omega)) rfl rfl ?_ | refine XR_a (op_subI rfl rfl (by simp only [inK]; omega)) rfl rfl ?_ | refine XR_a (op_sub rfl rfl) rfl rfl ?_
   first | refine XR_a (op_index1 rfl rfl rfl (by omega)) rfl rfl ?_ | refine XR_a (op_index rfl rfl rfl (by omega)) rfl rfl ?_
   refine XR_a (op_ld (st.natAt (get_mid _ _ _ hia)) rfl rfl rfl) rfl rfl ?_
   refine XR_wa (opl_callV rfl (hcmp.2 _ _ st x (S.getD (p - 1) 0) hgx (hgS _ hp1)) rfl (hcmp.1)) rfl rfl rfl ?_
   rintro _ _ ⟨rfl, rfl⟩
   refine XR_a (op_lss rfl rfl) rfl rfl ?_
   refine XR_a (op_pick_t rfl rfl) rfl rfl (XR_nil ?_)
   refine X_if rfl (fun h => ?_) (fun h => ?_)
   ·refine X_skip (X_seq (X_block ?_))
    refine X_draw (butAt [(4, .pure)]) (by kernel_rfl) (by kernel_rfl) ?_
    refine XV rfl rfl rfl (XV rfl rfl rfl (XV rfl rfl rfl (XV rfl rfl rfl ?_)))
    first | refine XR_a (op_subN (n := 1) rfl rfl (by omega) (by simp only [inK]; omega)) rfl rfl ?_ | refine XR_a (op_subI rfl rfl (by simp only [inK]; omega)) rfl rfl ?_ | refine XR_a (op_sub rfl rfl) rfl rfl ?_
    refine XV rfl rfl rfl (XV rfl rfl rfl ?_)
    first | refine XR_a (op_subN (n := 1) rfl rfl (by omega) (by simp only [inK]; omega)) rfl rfl ?_ | refine XR_a (op_subI rfl rfl (by simp only [inK]; omega)) rfl rfl ?_ | refine XR_a (op_sub rfl rfl) rfl rfl ?_
    first | refine XR_a (op_index1 rfl rfl rfl (by omega)) rfl rfl ?_ | refine XR_a (op_index rfl rfl rfl (by omega)) rfl rfl ?_
    refine XR_a (op_ld (st.natAt (get_mid _ _ _ hia)) rfl rfl rfl) rfl rfl ?_
    refine XV rfl rfl rfl (XV rfl rfl rfl ?_)
    first | refine XR_a (op_index1 rfl rfl rfl (by omega)) rfl rfl ?_ | refine XR_a (op_index rfl rfl rfl (by omega)) rfl rfl ?_
    refine XR_a (op_ld (st.natAt (get_mid2 _ _ _ _ _ hib)) rfl rfl rfl) rfl rfl ?_
    first | refine XR_a (op_index1 rfl rfl rfl (by omega)) rfl rfl ?_ | refine XR_a (op_index rfl rfl rfl (by omega)) rfl rfl ?_
    refine XR_wn (opl_store_row (i := a + p) st 0 rfl rfl rfl (by simp only [List.length_map, List.length_append, List.length_cons, List.length_take, List.length_drop, List.length_nil]; omega) rfl rfl) rfl rfl fun _ hp st => ?_
    simp only [List.set_cons_zero] at st
    first | refine XR_a (op_index1 rfl rfl rfl (by omega)) rfl rfl ?_ | refine XR_a (op_index rfl rfl rfl (by omega)) rfl rfl ?_
    refine XR_wn (opl_store_row (i := a + p - 1) st 0 rfl rfl rfl (by simp only [List.length_set, List.length_map, List.length_append, List.length_cons, List.length_take, List.length_drop, List.length_nil]; omega) rfl rfl) rfl rfl fun _ hp st => ?_
    simp only [List.set_cons_zero] at st
    rw [swap_map' hia hib, ← e2] at st
    refine XR_nil (X_blk (X_reg (XV rfl rfl rfl ?_)))
    first | refine XR_a (op_subN (n := 1) rfl rfl (by omega) (by simp only [inK]; omega)) rfl rfl ?_ | refine XR_a (op_subI rfl rfl (by simp only [inK]; omega)) rfl rfl ?_ | refine XR_a (op_sub rfl rfl) rfl rfl ?_
    refine XA rfl rfl rfl (XR_nil ?_)
    exact X_again (p - 1) (.cons rfl (.cons rfl (.cons rfl (.cons rfl (.cons rfl (.cons (by rw [show a + p - 1 = a + (p - 1) by omega]; rfl) (.nil _))))))) ⟨by omega, .inr (cmpI_neg.1 h), st⟩ (by omega)
   ·refine X_exit rfl (X_blk (X_reg (XV rfl rfl rfl ?_)))
    first | refine XR_a (op_addN (n := 1) rfl rfl (by simp only [inK]; omega)) rfl rfl ?_ | refine XR_a (op_addI rfl rfl (by simp only [inK]; omega)) rfl rfl ?_ | refine XR_a (op_add rfl rfl) rfl rfl ?_
    refine XA rfl rfl rfl (XR_nil ?_)
    exact X_again (i + 1, S.take p ++ x :: S.drop p) (.cons rfl (.cons rfl (.cons rfl (.cons rfl (.cons rfl (.nil _)))))) (hfin (.inr (Nat.le_of_not_lt fun h2 => h (cmpI_neg.2 h2)))) (by simp only; omega)
  ·refine XR_no rfl rfl (XR_no rfl rfl (XR_no rfl rfl (XR_no rfl rfl (XR_no rfl rfl (XR_no rfl rfl (XR_no rfl rfl (XR_no rfl rfl (XR_no rfl rfl (XR_no rfl rfl ?_)))))))))
   refine XR_no rfl rfl (XR_no rfl rfl (XR_a (op_pick_f rfl rfl) rfl rfl (XR_nil (X_else rfl (X_exit rfl (X_blk (X_reg (XV rfl rfl rfl ?_))))))))
   first | refine XR_a (op_addN (n := 1) rfl rfl (by simp only [inK]; omega)) rfl rfl ?_ | refine XR_a (op_addI rfl rfl (by simp only [inK]; omega)) rfl rfl ?_ | refine XR_a (op_add rfl rfl) rfl rfl ?_
   refine XA rfl rfl rfl (XR_nil ?_)
   exact X_again (i + 1, S.take p ++ x :: S.drop p) (.cons rfl (.cons rfl (.cons rfl (.cons rfl (.cons rfl (.nil _)))))) (hfin (.inl (by omega))) (by simp only; omega)
 ·refine X_exit rfl ?_
  refine X_end .nil ?_
  rw [List.take_of_length_le (by omega)] at hS
  rw [List.drop_of_length_le (by omega)] at st
  exact ⟨S, hS, hSs, st⟩
end Go.Bn
end
