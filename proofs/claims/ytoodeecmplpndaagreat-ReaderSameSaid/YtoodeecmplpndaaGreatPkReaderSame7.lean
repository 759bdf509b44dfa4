/- Packed texts of a claim: what its theorem uses, joined. -/
import Derived.Test.YtoodeecmplpndaaGreatProg
import Derived.Test.YtoodeecmplpndaaGreatPkReaderSame6
section
set_option linter.unusedVariables false
set_option linter.unusedSimpArgs false
namespace Go.Bn
structure Kls where
  num : Int
  bits : Int
  ext : Int
  deriving DecidableEq
def Kls.nil : Kls := ⟨0, 0, 0⟩
def bitsC (i : Nat) : Nat := if i < 4 then 0 else i / 2 - 1
def baseC : Nat → Nat
  | 0 => 0
  | i + 1 => baseC i + 2 ^ bitsC i
def lenN (v : Nat) : Nat := if v = 0 then 0 else Nat.log2 v + 1
theorem two_lt (k : Nat) : 0 < 2 ^ k := Nat.pow_pos (by omega)
theorem baseC_even (n : Nat) : baseC (2 * (n + 1) + 2) = 2 * 2 ^ (n + 1) ∧ baseC (2 * (n + 1) + 3) = 3 * 2 ^ (n + 1) := by
 induction n with
 | zero => decide
 | succ n ih =>
  have b3 : bitsC (2 * (n + 1) + 3) = n + 1 := by unfold bitsC; rw [if_neg (by omega)]; omega
  have b2 : bitsC (2 * (n + 1 + 1) + 2) = n + 1 + 1 := by unfold bitsC; rw [if_neg (by omega)]; omega
  have e1 : baseC (2 * (n + 1 + 1) + 2) = baseC (2 * (n + 1) + 3) + 2 ^ (n + 1) := by
   rw [show 2 * (n + 1 + 1) + 2 = (2 * (n + 1) + 3) + 1 by omega, baseC, b3]
  have e2 : baseC (2 * (n + 1 + 1) + 3) = baseC (2 * (n + 1 + 1) + 2) + 2 ^ (n + 1 + 1) := by
   conv => lhs; rw [show 2 * (n + 1 + 1) + 3 = (2 * (n + 1 + 1) + 2) + 1 from rfl, baseC, b2]
  rw [ih.2] at e1
  refine ⟨by rw [e1, Nat.pow_succ 2 (n + 1)]; omega, by rw [e2, e1, Nat.pow_succ 2 (n + 1)]; omega⟩
theorem baseC_form (i : Nat) (h : 4 ≤ i) : baseC i = (2 + i % 2) * 2 ^ (i / 2 - 1) := by
 rcases (by omega : i % 2 = 0 ∨ i % 2 = 1) with h2 | h2
 ·obtain ⟨n, rfl⟩ : ∃ n, i = 2 * (n + 1) + 2 := ⟨i / 2 - 2, by omega⟩
  rw [(baseC_even n).1, h2, show (2 * (n + 1) + 2) / 2 - 1 = n + 1 by omega]
 ·obtain ⟨n, rfl⟩ : ∃ n, i = 2 * (n + 1) + 3 := ⟨i / 2 - 2, by omega⟩
  rw [(baseC_even n).2, h2, show (2 * (n + 1) + 3) / 2 - 1 = n + 1 by omega]
theorem baseC_small : ∀ i, i < 5 → baseC i = i := by decide
theorem baseC_lt (i : Nat) : baseC i < baseC (i + 1) := by
 rw [baseC]; have := two_lt (bitsC i); omega
theorem baseC_mono {i j : Nat} (h : i ≤ j) : baseC i ≤ baseC j := by
 induction j with
 | zero =>
  obtain rfl : i = 0 := by omega
  exact Nat.le_refl _
 | succ j ih =>
  rcases Nat.lt_or_ge j i with h1 | h1
  ·obtain rfl : i = j + 1 := by omega
   exact Nat.le_refl _
  ·have := ih h1; have := baseC_lt j; omega
def klsN (v : Nat) : Nat := if v < 4 then v else 2 * (lenN v - 2) + v / 2 ^ (lenN v - 2)
theorem len_spec {v : Nat} (h : 4 ≤ v) : 3 ≤ lenN v ∧ 2 ^ (lenN v - 1) ≤ v ∧ v < 2 ^ lenN v := by
 have h0 : v ≠ 0 := by omega
 have e : lenN v = Nat.log2 v + 1 := by unfold lenN; rw [if_neg h0]
 have h1 := Nat.log2_self_le h0
 have h2 : v < 2 ^ (Nat.log2 v + 1) := Nat.lt_log2_self
 have h3 : 2 ≤ Nat.log2 v := (Nat.le_log2 h0).2 (by omega)
 rw [e]
 exact ⟨by omega, by simpa using h1, h2⟩
theorem kls_spec {v : Nat} (h : 4 ≤ v) : ∃ n q, lenN v = n + 2 ∧ 1 ≤ n ∧ (q = 2 ∨ q = 3) ∧ v / 2 ^ n = q ∧ klsN v = 2 * n + q ∧ bitsC (2 * n + q) = n ∧ baseC (2 * n + q) = q * 2 ^ n ∧ q * 2 ^ n + v % 2 ^ n = v := by
 obtain ⟨h1, h2, h3⟩ := len_spec h
 obtain ⟨n, hn⟩ : ∃ n, lenN v = n + 2 := ⟨lenN v - 2, by omega⟩
 rw [hn, show n + 2 - 1 = n + 1 by omega] at h2
 rw [hn] at h3
 have p1 : 2 ^ (n + 1) = 2 * 2 ^ n := by rw [Nat.pow_succ, Nat.mul_comm]
 have p2 : 2 ^ (n + 2) = 4 * 2 ^ n := by rw [Nat.pow_succ, p1]; omega
 have hd := Nat.div_add_mod v (2 ^ n)
 have hm := Nat.mod_lt v (two_lt n)
 have hq : v / 2 ^ n = 2 ∨ v / 2 ^ n = 3 := by
  have a1 : 2 ≤ v / 2 ^ n := (Nat.le_div_iff_mul_le (two_lt n)).2 (by omega)
  have a2 : v / 2 ^ n < 4 := (Nat.div_lt_iff_lt_mul (two_lt n)).2 (by omega)
  omega
 refine ⟨n, v / 2 ^ n, hn, by omega, hq, rfl, ?_, ?_, ?_, ?_⟩
 ·unfold klsN; rw [if_neg (by omega), hn]; rfl
 ·unfold bitsC; rw [if_neg (by omega)]; omega
 ·rw [baseC_form _ (by omega)]
  rcases hq with e | e <;> rw [e]
  ·rw [show (2 + (2 * n + 2) % 2) = 2 by omega, show (2 * n + 2) / 2 - 1 = n by omega]
  ·rw [show (2 + (2 * n + 3) % 2) = 3 by omega, show (2 * n + 3) / 2 - 1 = n by omega]
 ·rw [Nat.mul_comm]; exact hd
theorem klsN_between (v : Nat) : baseC (klsN v) ≤ v ∧ v < baseC (klsN v + 1) ∧ (v < 32768 → klsN v < 30) := by
 rcases Nat.lt_or_ge v 4 with h | h
 ·have e : klsN v = v := by unfold klsN; rw [if_pos h]
  rw [e, baseC_small v (by omega), baseC_small (v + 1) (by omega)]
  exact ⟨Nat.le_refl _, by omega, fun _ => by omega⟩
 ·obtain ⟨n, q, hn, hn1, hq, hv, hc, hb, hbase, hsum⟩ := kls_spec h
  have hm := Nat.mod_lt v (two_lt n)
  rw [hc, baseC, hbase, hb]
  refine ⟨by omega, by omega, fun hlt => ?_⟩
  have h2 : 2 ^ (n + 1) < 2 ^ 15 := by
   have : q * 2 ^ n ≤ v := by omega
   rw [Nat.pow_succ]
   rcases hq with rfl | rfl <;> omega
  have := (Nat.pow_lt_pow_iff_right (by omega : 1 < 2)).1 h2
  omega
theorem klsN_unique {v c : Nat} (h1 : baseC c ≤ v) (h2 : v < baseC (c + 1)) : klsN v = c := by
 obtain ⟨g1, g2, _⟩ := klsN_between v
 rcases Nat.lt_or_ge (klsN v) c with h | h
 ·have := baseC_mono (show klsN v + 1 ≤ c by omega); omega
 ·rcases Nat.lt_or_ge c (klsN v) with h' | h'
  ·have := baseC_mono (show c + 1 ≤ klsN v by omega); omega
  ·omega
theorem klsN_mono {v w : Nat} (h : v ≤ w) : klsN v ≤ klsN w := by
 obtain ⟨g1, _, _⟩ := klsN_between v
 obtain ⟨_, k2, _⟩ := klsN_between w
 rcases Nat.lt_or_ge (klsN w) (klsN v) with h' | h'
 ·have := baseC_mono (show klsN w + 1 ≤ klsN v by omega); omega
 ·exact h'
def klsOf (v : Nat) : Kls := ⟨klsN v, bitsC (klsN v), ((v - baseC (klsN v) : Nat) : Int)⟩
theorem klsOf_small {v : Nat} (h : v < 4) : klsOf v = ⟨v, 0, 0⟩ := by
 have e : klsN v = v := by unfold klsN; rw [if_pos h]
 unfold klsOf
 rw [e, baseC_small v (by omega)]
 unfold bitsC
 rw [if_pos h]; simp
theorem klsOf_big {v n q : Nat} (hc : klsN v = 2 * n + q) (hb : bitsC (2 * n + q) = n) (hbase : baseC (2 * n + q) = q * 2 ^ n) (hsum : q * 2 ^ n + v % 2 ^ n = v) : klsOf v = ⟨((2 * n + q : Nat) : Int), n, ((v % 2 ^ n : Nat) : Int)⟩ := by
 unfold klsOf
 rw [hc, hb, hbase, show v - q * 2 ^ n = v % 2 ^ n by omega]
def ofC (v : Int) : Kls × Bool := if v < 0 ∨ 32767 < v then (Kls.nil, false) else (klsOf v.toNat, true)
def valC (c : Kls) : Option Nat :=
  if c.num < 0 ∨ 30 ≤ c.num then none
  else if c.bits ≠ bitsC c.num.toNat then none
  else if (2 : Int) ^ bitsC c.num.toNat ≤ c.ext then none
  else some (baseC c.num.toNat + c.ext.toNat)
theorem valC_some {c : Kls} {v : Nat} (h : valC c = some v) : 0 ≤ c.num ∧ c.num < 30 ∧ c.bits = bitsC c.num.toNat ∧ c.ext < (2 : Int) ^ bitsC c.num.toNat ∧ v = baseC c.num.toNat + c.ext.toNat := by
 unfold valC at h
 split at h
 ·cases h
 ·split at h
  ·cases h
  ·split at h
   ·cases h
   ·cases h
    rename_i a b d
    exact ⟨by omega, by omega, Decidable.not_not.1 b, by omega, rfl⟩
theorem valC_lt {c : Kls} {v : Nat} (h : valC c = some v) : v < 65536 := by
 obtain ⟨h1, h2, h3, h4, h5⟩ := valC_some h
 have hb : c.ext.toNat < 2 ^ bitsC c.num.toNat := by
  have : ((2 ^ bitsC c.num.toNat : Nat) : Int) = (2 : Int) ^ bitsC c.num.toNat := by rw [Int.natCast_pow]; rfl
  have := two_lt (bitsC c.num.toNat)
  omega
 have := baseC_mono (show c.num.toNat + 1 ≤ 30 by omega)
 rw [baseC, show baseC 30 = 65536 / 2 by decide] at this
 omega
theorem valC_of {v : Nat} (h : v < 32768) : valC (klsOf v) = some v := by
 obtain ⟨g1, g2, g3⟩ := klsN_between v
 have := g3 h
 have hp : ((2 ^ bitsC (klsN v) : Nat) : Int) = (2 : Int) ^ bitsC (klsN v) := by rw [Int.natCast_pow]; rfl
 rw [baseC] at g2
 unfold valC klsOf
 simp only [Int.toNat_natCast]
 rw [if_neg (by omega), if_neg (by simp), if_neg (by rw [← hp]; omega)]
 congr 1; omega
structure Tok where
  byte : Int
  len : Int
  dist : Int
  deriving DecidableEq
def Tok.nil : Tok := ⟨0, 0, 0⟩
def Tok.right (t : Tok) : Prop := if t.len = 0 then t.dist = 0 else t.byte = 0 ∧ 3 ≤ t.len ∧ t.len ≤ 258 ∧ 1 ≤ t.dist ∧ t.dist ≤ 32768
instance (t : Tok) : Decidable t.right := by unfold Tok.right; infer_instance
structure Sy where
  a : Kls
  b : Kls
  m : Bool
  deriving DecidableEq
def Sy.nil : Sy := ⟨Kls.nil, Kls.nil, false⟩
def splitY (t : Tok) : Sy :=
  if t.len = 0 then ⟨⟨t.byte, 0, 0⟩, Kls.nil, false⟩
  else ⟨⟨(klsOf (t.len - 3).toNat).num + 257, (klsOf (t.len - 3).toNat).bits, (klsOf (t.len - 3).toNat).ext⟩, klsOf (t.dist - 1).toNat, true⟩
def splitT (t : Tok) : Sy × Bool := if t.right then (splitY t, true) else (Sy.nil, false)
def matchT (r : Sy) : Tok × Bool :=
  match valC ⟨r.a.num - 257, r.a.bits, r.a.ext⟩, valC r.b with
  | some x, some y => if (Tok.mk 0 (x + 3) (y + 1)).right then (Tok.mk 0 (x + 3) (y + 1), true) else (Tok.nil, false)
  | _, _ => (Tok.nil, false)
def joinT (r : Sy) : Tok × Bool :=
  if r.m = true then (if 257 ≤ r.a.num ∧ r.a.num < 273 then matchT r else (Tok.nil, false))
  else if 0 ≤ r.a.num ∧ r.a.num < 256 ∧ r = ⟨⟨r.a.num, 0, 0⟩, Kls.nil, false⟩ then (⟨r.a.num, 0, 0⟩, true)
  else (Tok.nil, false)
theorem klsN_255 {v : Nat} (h : v < 256) : klsN v < 16 := by
 have := klsN_mono (show v ≤ 255 by omega)
 have e : klsN 255 = 15 := klsN_unique (by decide) (by decide)
 omega
theorem join_split {t : Tok} (h : t.right) (hb : 0 ≤ t.byte ∧ t.byte < 256) : joinT (splitY t) = (t, true) ∧ 0 ≤ (splitY t).a.num ∧ (splitY t).a.num < 273 ∧ (splitY t).a.num ≠ 256 ∧ 0 ≤ (splitY t).b.num ∧ (splitY t).b.num < 30 := by
 have h' := h
 unfold Tok.right at h
 by_cases h0 : t.len = 0
 ·rw [if_pos h0] at h
  have e : splitY t = ⟨⟨t.byte, 0, 0⟩, Kls.nil, false⟩ := by unfold splitY; rw [if_pos h0]
  rw [e]
  refine ⟨?_, by simp only; omega, by simp only; omega, by simp only; omega, by simp [Kls.nil], by simp [Kls.nil]⟩
  unfold joinT
  rw [if_neg (by simp), if_pos ⟨hb.1, hb.2, rfl⟩]
  cases t; simp only at *; subst h0 h; rfl
 ·rw [if_neg h0] at h
  obtain ⟨h1, h2, h3, h4, h5⟩ := h
  have e : splitY t = ⟨⟨(klsOf (t.len - 3).toNat).num + 257, (klsOf (t.len - 3).toNat).bits, (klsOf (t.len - 3).toNat).ext⟩, klsOf (t.dist - 1).toNat, true⟩ := by unfold splitY; rw [if_neg h0]
  have c1 : (t.len - 3).toNat < 256 := by omega
  have c2 : (t.dist - 1).toNat < 32768 := by omega
  have k1 := klsN_255 c1
  have k2 := (klsN_between (t.dist - 1).toNat).2.2 c2
  have n1 : (klsOf (t.len - 3).toNat).num = klsN (t.len - 3).toNat := rfl
  have n2 : (klsOf (t.dist - 1).toNat).num = klsN (t.dist - 1).toNat := rfl
  rw [e]
  refine ⟨?_, by simp only; omega, by simp only; omega, by simp only; omega, by simp only; omega, by simp only; omega⟩
  unfold joinT
  rw [if_pos rfl, if_pos (by simp only; omega)]
  unfold matchT
  simp only [show (klsOf (t.len - 3).toNat).num + 257 - 257 = (klsOf (t.len - 3).toNat).num by omega]
  rw [show (Kls.mk (klsOf (t.len - 3).toNat).num (klsOf (t.len - 3).toNat).bits (klsOf (t.len - 3).toNat).ext) = klsOf (t.len - 3).toNat from rfl, valC_of (by omega), valC_of c2]
  have et : Tok.mk 0 (((t.len - 3).toNat : Int) + 3) (((t.dist - 1).toNat : Int) + 1) = t := by
   cases t; simp only at *; congr 1 <;> omega
  simp only [et]
  rw [if_pos h']
end Go.Bn
end

section
set_option linter.unusedVariables false
set_option linter.unusedSimpArgs false
namespace Go.Bn
noncomputable def clsT (ls : List Nat) (fr : Nat) (bs : List Bool) (a : Nat) : Kls × Nat × Nat :=
  if (takeC ls (bs.drop a)).2.2 ≠ 0 ∨ (takeC ls (bs.drop a)).1 < fr then (⟨(takeC ls (bs.drop a)).1, 0, 0⟩, a + (takeC ls (bs.drop a)).2.1, (takeC ls (bs.drop a)).2.2)
  else if bs.length - (a + (takeC ls (bs.drop a)).2.1) < bitsC ((takeC ls (bs.drop a)).1 - fr) then (Kls.nil, a + (takeC ls (bs.drop a)).2.1, 2)
  else (⟨(takeC ls (bs.drop a)).1, bitsC ((takeC ls (bs.drop a)).1 - fr), (numB bs (a + (takeC ls (bs.drop a)).2.1) (bitsC ((takeC ls (bs.drop a)).1 - fr)) : Nat)⟩, a + (takeC ls (bs.drop a)).2.1 + bitsC ((takeC ls (bs.drop a)).1 - fr), 0)
noncomputable def nextT (la lb : List Nat) (bs : List Bool) (a : Nat) : Tok × Nat × Bool × Nat :=
  if (clsT la 257 bs a).2.2 ≠ 0 ∨ (clsT la 257 bs a).1.num = 256 then (Tok.nil, (clsT la 257 bs a).2.1, true, (clsT la 257 bs a).2.2)
  else if 256 < (clsT la 257 bs a).1.num then
    if (clsT lb 0 bs (clsT la 257 bs a).2.1).2.2 ≠ 0 then (Tok.nil, (clsT lb 0 bs (clsT la 257 bs a).2.1).2.1, true, (clsT lb 0 bs (clsT la 257 bs a).2.1).2.2)
    else if (joinT ⟨(clsT la 257 bs a).1, (clsT lb 0 bs (clsT la 257 bs a).2.1).1, true⟩).2 = true then ((joinT ⟨(clsT la 257 bs a).1, (clsT lb 0 bs (clsT la 257 bs a).2.1).1, true⟩).1, (clsT lb 0 bs (clsT la 257 bs a).2.1).2.1, false, 0)
    else (Tok.nil, (clsT lb 0 bs (clsT la 257 bs a).2.1).2.1, true, 3)
  else if (joinT ⟨(clsT la 257 bs a).1, Kls.nil, false⟩).2 = true then ((joinT ⟨(clsT la 257 bs a).1, Kls.nil, false⟩).1, (clsT la 257 bs a).2.1, false, 0)
  else (Tok.nil, (clsT la 257 bs a).2.1, true, 3)
def Tok.size (t : Tok) : Nat := max 1 t.len.toNat
noncomputable def goB (la lb : List Nat) (bs : List Bool) (most : Int) : Nat → Nat → Nat → List Tok → List Tok × Nat × Nat × Nat
  | 0, _, _, _ => ([], 0, 0, 2)
  | f + 1, a, sz, acc =>
    if (nextT la lb bs a).2.2.1 = true then (if (nextT la lb bs a).2.2.2 ≠ 0 then ([], 0, 0, (nextT la lb bs a).2.2.2) else (acc, sz, (nextT la lb bs a).2.1, 0))
    else if (sz : Int) < (nextT la lb bs a).1.dist then ([], 0, 0, 3)
    else if most - sz < (nextT la lb bs a).1.size then ([], 0, 0, 5)
    else goB la lb bs most f (nextT la lb bs a).2.1 (sz + (nextT la lb bs a).1.size) (acc ++ [(nextT la lb bs a).1])
def castI (l : List Nat) : List Int := l.map fun n : Nat => (n : Int)
noncomputable def codesT (bs : List Bool) (a : Nat) : Nat × List Nat × List Nat × Nat :=
  if (takeR bs a (okR bs a)).2.2 ≠ 0 then ((takeR bs a (okR bs a)).2.2, [], [], 0)
  else if (takeR bs (takeR bs a (okR bs a)).2.1 (okR bs (takeR bs a (okR bs a)).2.1)).2.2 ≠ 0 then ((takeR bs (takeR bs a (okR bs a)).2.1 (okR bs (takeR bs a (okR bs a)).2.1)).2.2, [], [], 0)
  else if (takeR bs a (okR bs a)).1.length ≠ 273 ∨ (takeR bs (takeR bs a (okR bs a)).2.1 (okR bs (takeR bs a (okR bs a)).2.1)).1.length ≠ 30 then (3, [], [], 0)
  else if ¬ rightC (castI (takeR bs a (okR bs a)).1) ∨ ¬ rightC (castI (takeR bs (takeR bs a (okR bs a)).2.1 (okR bs (takeR bs a (okR bs a)).2.1)).1) then (13, [], [], 0)
  else (0, (takeR bs a (okR bs a)).1, (takeR bs (takeR bs a (okR bs a)).2.1 (okR bs (takeR bs a (okR bs a)).2.1)).1, (takeR bs (takeR bs a (okR bs a)).2.1 (okR bs (takeR bs a (okR bs a)).2.1)).2.1)
noncomputable def blockT (bs : List Bool) (most : Int) : List Tok × Nat × Nat × Nat :=
  if (codesT bs 0).1 ≠ 0 then ([], 0, 0, (codesT bs 0).1) else goB (codesT bs 0).2.1 (codesT bs 0).2.2.1 bs most (bs.length + 1) (codesT bs 0).2.2.2 0 []
theorem castI_toNat (l : List Nat) : (castI l).map Int.toNat = l := cast_toNat l
structure CodesOk (bs : List Bool) (la lb : List Nat) (a : Nat) : Prop where
  oka : lensOK la
  okb : lensOK lb
  lena : la.length = 273
  lenb : lb.length = 30
theorem codesT_ok {bs : List Bool} {a : Nat} (h : (codesT bs a).1 = 0) : CodesOk bs (codesT bs a).2.1 (codesT bs a).2.2.1 a := by
 revert h
 unfold codesT
 obtain ⟨X, hX⟩ : ∃ X, takeR bs a (okR bs a) = X := ⟨_, rfl⟩
 rw [hX]
 obtain ⟨Y, hY⟩ : ∃ Y, takeR bs X.2.1 (okR bs X.2.1) = Y := ⟨_, rfl⟩
 rw [hY]
 split
 ·intro h; exact absurd h ‹_›
 ·split
  ·intro h; exact absurd h ‹_›
  ·split
   ·intro h; cases h
   ·split
    ·intro h; cases h
    ·rename_i h3 h4
     intro _
     have h5 : rightC (castI X.1) ∧ rightC (castI Y.1) := by
      constructor
      ·exact Classical.byContradiction fun hn => h4 (.inl hn)
      ·exact Classical.byContradiction fun hn => h4 (.inr hn)
     have k1 := h5.1.ok
     have k2 := h5.2.ok
     rw [castI_toNat] at k1 k2
     exact ⟨k1, k2, by simp only; omega, by simp only; omega⟩
theorem takeC_small {ls : List Nat} (hok : lensOK ls) (bs : List Bool) : (takeC ls bs).1 < ls.length ∨ (takeC ls bs).1 = 0 := by
 by_cases h : (takeC ls bs).2.2 = 0
 ·obtain ⟨h1, _⟩ := takeC_sym hok h
  exact .inl h1
 ·refine .inr ?_
  rw [takeC_S hok] at h ⊢
  unfold takeS at h ⊢
  cases hf : (qcodes ls).find? (matchQ bs) with
  | some c => rw [hf] at h; exact absurd rfl h
  | none => simp only; split <;> rfl
theorem clsT_num {ls : List Nat} {fr : Nat} {bs : List Bool} {a : Nat} (hok : lensOK ls) (hl : ls.length ≤ fr + 30) (hl2 : ls.length ≤ 320) : 0 ≤ (clsT ls fr bs a).1.num ∧ (clsT ls fr bs a).1.num < 320 ∧ 0 ≤ (clsT ls fr bs a).1.ext ∧ (clsT ls fr bs a).1.ext < 4294967296 := by
 have h1 : (takeC ls (bs.drop a)).1 < 320 := by
  have := hok.1
  rcases takeC_small hok (bs.drop a) with h | h <;> omega
 unfold clsT
 split
 ·exact ⟨by simp only; omega, by simp only; omega, by simp only; omega, by simp only; omega⟩
 ·split
  ·exact ⟨by simp [Kls.nil], by simp [Kls.nil], by simp [Kls.nil], by simp [Kls.nil]⟩
  ·rename_i h2 h3
   have hb : bitsC ((takeC ls (bs.drop a)).1 - fr) ≤ 13 := by
    have : (takeC ls (bs.drop a)).1 - fr < 30 := by
     have := hok.1
     rcases takeC_small hok (bs.drop a) with h | h <;> omega
    unfold bitsC; split <;> omega
   have hn := numB_lt bs (a + (takeC ls (bs.drop a)).2.1) (bitsC ((takeC ls (bs.drop a)).1 - fr))
   have : 2 ^ bitsC ((takeC ls (bs.drop a)).1 - fr) ≤ 2 ^ 13 := Nat.pow_le_pow_right (by omega) hb
   exact ⟨by simp only; omega, by simp only; omega, by simp only; omega, by simp only; omega⟩
theorem clsT_at {ls : List Nat} {fr : Nat} {bs : List Bool} {a : Nat} (hok : lensOK ls) (ha : a ≤ bs.length) : a ≤ (clsT ls fr bs a).2.1 ∧ (clsT ls fr bs a).2.1 ≤ bs.length ∧ ((clsT ls fr bs a).2.2 = 0 → a < (clsT ls fr bs a).2.1) := by
 have hle := takeC_le ls (bs.drop a)
 rw [List.length_drop] at hle
 have hpos := fun h => takeC_pos hok (bs := bs.drop a) h
 unfold clsT
 split
 ·exact ⟨by simp only; omega, by simp only; omega, fun h => by simp only at h ⊢; have := hpos h; omega⟩
 ·split
  ·exact ⟨by simp only; omega, by simp only; omega, fun h => by cases h⟩
  ·rename_i h1 h2
   have := hpos (by omega)
   exact ⟨by simp only; omega, by simp only; omega, fun _ => by simp only; omega⟩
theorem joinT_right {r : Sy} (h : (joinT r).2 = true) : (joinT r).1.right ∧ 0 ≤ (joinT r).1.byte ∧ (joinT r).1.byte < 256 := by
 unfold joinT at *
 split at h
 ·rename_i hm
  split at h
  ·rename_i hr
   rw [if_pos hm, if_pos hr]
   unfold matchT at *
   split at h
   ·rename_i x y hx hy
    split at h
    ·rename_i ht
     simp only [hx, hy, if_pos ht]
     exact ⟨ht, by simp, by simp⟩
    ·cases h
   ·cases h
  ·cases h
 ·split at h
  ·rename_i hm hr
   rw [if_neg hm, if_pos hr]
   exact ⟨by unfold Tok.right; rw [if_pos rfl], hr.1, hr.2.1⟩
  ·cases h
theorem nextT_at {la lb : List Nat} {bs : List Bool} {a : Nat} (oka : lensOK la) (okb : lensOK lb) (ha : a ≤ bs.length) :
  a ≤ (nextT la lb bs a).2.1 ∧ (nextT la lb bs a).2.1 ≤ bs.length ∧ ((nextT la lb bs a).2.2.1 = false → a < (nextT la lb bs a).2.1 ∧ (nextT la lb bs a).2.2.2 = 0 ∧ (nextT la lb bs a).1.right ∧ 0 ≤ (nextT la lb bs a).1.byte ∧ (nextT la lb bs a).1.byte < 256) := by
 obtain ⟨h1, h2, h3⟩ := clsT_at (fr := 257) oka ha
 obtain ⟨k1, k2, k3⟩ := clsT_at (fr := 0) okb h2
 unfold nextT
 split
 ·exact ⟨h1, h2, fun h => by cases h⟩
 ·split
  ·split
   ·exact ⟨by simp only; omega, k2, fun h => by cases h⟩
   ·split
    ·rename_i a1 a2 a3 a4
     exact ⟨by simp only; omega, k2, fun _ => ⟨by simp only; have := h3 (by omega); omega, rfl, joinT_right a4⟩⟩
    ·exact ⟨by simp only; omega, k2, fun h => by cases h⟩
  ·split
   ·rename_i a1 a2 a3
    exact ⟨h1, h2, fun _ => ⟨h3 (by omega), rfl, joinT_right a3⟩⟩
   ·exact ⟨h1, h2, fun h => by cases h⟩
theorem Tok.size_le {t : Tok} (h : t.right) : 1 ≤ t.size ∧ t.size ≤ 258 ∧ (t.size : Int) = max 1 t.len := by
 unfold Tok.right at h
 unfold Tok.size
 split at h <;> refine ⟨by omega, by omega, by omega⟩
theorem goT_at (ls : List Nat) (bs : List Bool) (n : Nat) : ∀ (f a : Nat) (l : List Nat), a ≤ bs.length → (goT ls bs n f a l).2.2 = 0 → a ≤ (goT ls bs n f a l).2.1 ∧ (goT ls bs n f a l).2.1 ≤ bs.length
 | 0, _, _, _, h => by cases h
 | f + 1, a, l, ha, h => by
  revert h
  rw [goT]
  split
  ·exact fun _ => ⟨Nat.le_refl _, ha⟩
  ·split
   ·intro h; exact absurd h ‹_›
   ·split
    ·intro h; cases h
    ·split
     ·intro h; cases h
     ·split
      ·intro h; cases h
      ·intro h
       have := goT_at ls bs n f _ _ (by omega) h
       omega
theorem takeR_at {bs : List Bool} {a : Nat} {ok : Bool} (h : (takeR bs a ok).2.2 = 0) (ha : a ≤ bs.length) : a ≤ (takeR bs a ok).2.1 ∧ (takeR bs a ok).2.1 ≤ bs.length := by
 revert h
 unfold takeR
 split
 ·intro h; exact absurd h ‹_›
 ·rename_i hh
  intro h
  have h85 : a + 85 ≤ bs.length := by
   unfold headE at hh
   refine Classical.byContradiction fun hn => ?_
   revert hh
   split
   ·simp
   ·split
    ·simp
    ·rw [if_pos (by omega)]; simp
  have := goT_at _ bs _ 321 (a + 85) [] h85 h
  omega
theorem codesT_le {bs : List Bool} (h : (codesT bs 0).1 = 0) : (codesT bs 0).2.2.2 ≤ bs.length := by
 revert h
 unfold codesT
 obtain ⟨X, hX⟩ : ∃ X, takeR bs 0 (okR bs 0) = X := ⟨_, rfl⟩
 have h1 := takeR_at (bs := bs) (a := 0) (ok := okR bs 0)
 rw [hX] at h1 ⊢
 obtain ⟨Y, hY⟩ : ∃ Y, takeR bs X.2.1 (okR bs X.2.1) = Y := ⟨_, rfl⟩
 have h2 := takeR_at (bs := bs) (a := X.2.1) (ok := okR bs X.2.1)
 rw [hY] at h2 ⊢
 split
 ·intro h; exact absurd h ‹_›
 ·split
  ·intro h; exact absurd h ‹_›
  ·split
   ·intro h; cases h
   ·split
    ·intro h; cases h
    ·intro _
     have g1 := h1 (by omega) (by omega)
     exact (h2 (by omega) g1.2).2
end Go.Bn
end

section
set_option linter.unusedVariables false
set_option linter.unusedSimpArgs false
namespace Go.Bn
def piecesF : Nat → List UInt8 → List UInt8 → List UInt8 × Int
  | 0, _, _ => ([], 2)
  | f + 1, l, out =>
    if l.length < 2 then ([], 2)
    else if l.length < 2 + leV (l.take 2) then ([], 2)
    else if leV (l.take 2) = 0 then (if 2 < l.length then ([], 3) else (out, 0))
    else piecesF f (l.drop (2 + leV (l.take 2))) (out ++ (l.drop 2).take (leV (l.take 2)))
def pieces (l : List UInt8) : List UInt8 × Int := piecesF (l.length + 1) l []
theorem piecesF_fuel : ∀ (f f' : Nat) (l out : List UInt8), l.length < f → l.length < f' → piecesF f l out = piecesF f' l out
 | 0, _, _, _, h, _ => by omega
 | _, 0, _, _, _, h => by omega
 | f + 1, f' + 1, l, out, h, h' => by
  simp only [piecesF]
  split
  ·rfl
  ·split
   ·rfl
   ·split
    ·rfl
    ·exact piecesF_fuel f f' _ _ (by rw [List.length_drop]; omega) (by rw [List.length_drop]; omega)
theorem piecesF_step {m : Nat} {l out : List UInt8} {a n : Nat} (hl : l.length = m) (h2 : a + 2 ≤ m) (hn : leV ((l.drop a).take 2) = n) (hle : a + 2 + n ≤ m) (h0 : n ≠ 0) :
  piecesF (m - a + 1) (l.drop a) out = piecesF (m - (a + 2 + n) + 1) (l.drop (a + 2 + n)) (out ++ (l.drop (a + 2)).take n) := by
 rw [piecesF, hn, if_neg (by rw [List.length_drop]; omega), if_neg (by rw [List.length_drop]; omega), if_neg h0, List.drop_drop, List.drop_drop, ← Nat.add_assoc]
 exact piecesF_fuel _ _ _ _ (by rw [List.length_drop]; omega) (by rw [List.length_drop]; omega)
theorem piecesF_short {m : Nat} {l out : List UInt8} {a : Nat} (hl : l.length = m) (h2 : m < a + 2) (ha : a ≤ m) : piecesF (m - a + 1) (l.drop a) out = ([], 2) := by
 rw [piecesF, if_pos (by rw [List.length_drop]; omega)]
theorem piecesF_long {m : Nat} {l out : List UInt8} {a n : Nat} (hl : l.length = m) (h2 : a + 2 ≤ m) (hn : leV ((l.drop a).take 2) = n) (hle : m < a + 2 + n) : piecesF (m - a + 1) (l.drop a) out = ([], 2) := by
 rw [piecesF, hn, if_neg (by rw [List.length_drop]; omega), if_pos (by rw [List.length_drop]; omega)]
theorem piecesF_more {m : Nat} {l out : List UInt8} {a : Nat} (hl : l.length = m) (h2 : a + 2 < m) (hn : leV ((l.drop a).take 2) = 0) : piecesF (m - a + 1) (l.drop a) out = ([], 3) := by
 rw [piecesF, hn, if_neg (by rw [List.length_drop]; omega), if_neg (by rw [List.length_drop]; omega), if_pos rfl, if_pos (by rw [List.length_drop]; omega)]
theorem piecesF_done {m : Nat} {l out : List UInt8} {a : Nat} (hl : l.length = m) (h2 : a + 2 = m) (hn : leV ((l.drop a).take 2) = 0) : piecesF (m - a + 1) (l.drop a) out = (out, 0) := by
 rw [piecesF, hn, if_neg (by rw [List.length_drop]; omega), if_neg (by rw [List.length_drop]; omega), if_pos rfl, if_neg (by rw [List.length_drop]; omega)]
end Go.Bn
end

section
set_option linter.unusedVariables false
set_option linter.unusedSimpArgs false
namespace Go.Bn
abbrev Mv := Nat → List UInt8 → Nat × List UInt8 × Bool × Nat
structure MvOk (mv : Mv) (lim : Nat) (I : Nat → List UInt8 → Prop) : Prop where
  pre : ∀ a out, I a out → ∃ x, (mv a out).2.1 = out ++ x
  grow : ∀ a out, I a out → (mv a out).2.2.1 = false → out.length < (mv a out).2.1.length ∧ (mv a out).2.2.2 = 0 ∧ I (mv a out).1 (mv a out).2.1
  here : ∀ a out, I a out → out.length ≤ lim
  le : ∀ a out, I a out → (mv a out).2.1.length ≤ lim
inductive Giv (mv : Mv) : Nat → List UInt8 → List UInt8 → Nat → Prop
  | over {a : Nat} {out : List UInt8} (h : (mv a out).2.2.1 = true) : Giv mv a out (mv a out).2.1 (mv a out).2.2.2
  | more {a : Nat} {out gB : List UInt8} {gE : Nat} (h : (mv a out).2.2.1 = false) (g : Giv mv (mv a out).1 (mv a out).2.1 gB gE) : Giv mv a out gB gE
theorem Giv.det {mv : Mv} {a : Nat} {out gB gB' : List UInt8} {gE gE' : Nat} (g : Giv mv a out gB gE) (g' : Giv mv a out gB' gE') : gB = gB' ∧ gE = gE' := by
 induction g with
 | over h =>
  cases g' with
  | over h' => exact ⟨rfl, rfl⟩
  | more h' _ => rw [h] at h'; cases h'
 | more h _ ih =>
  cases g' with
  | over h' => rw [h] at h'; cases h'
  | more h' g' => exact ih g'
theorem Giv.pre {mv : Mv} {lim : Nat} {I : Nat → List UInt8 → Prop} (ok : MvOk mv lim I) {a : Nat} {out gB : List UInt8} {gE : Nat} (g : Giv mv a out gB gE) (hI : I a out) : (∃ x, gB = out ++ x) ∧ gB.length ≤ lim := by
 induction g with
 | over h => exact ⟨ok.pre _ _ hI, ok.le _ _ hI⟩
 | more h _ ih =>
  obtain ⟨⟨x, hx⟩, hl⟩ := ih (ok.grow _ _ hI h).2.2
  obtain ⟨y, hy⟩ := ok.pre _ _ hI
  exact ⟨⟨y ++ x, by rw [hx, hy, List.append_assoc]⟩, hl⟩
theorem Giv.all {mv : Mv} {lim : Nat} {I : Nat → List UInt8 → Prop} (ok : MvOk mv lim I) : ∀ (n a : Nat) (out : List UInt8), lim - out.length ≤ n → I a out → ∃ gB gE, Giv mv a out gB gE
 | n, a, out, hn, hI => by
  cases hh : (mv a out).2.2.1 with
  | true => exact ⟨_, _, .over hh⟩
  | false =>
   obtain ⟨h1, _, h2⟩ := ok.grow _ _ hI hh
   have h3 := ok.le _ _ hI
   cases n with
   | zero => omega
   | succ n =>
    obtain ⟨gB, gE, g⟩ := Giv.all ok n _ _ (by omega) h2
    exact ⟨gB, gE, .more hh g⟩
def copyT : Nat → Nat → List UInt8 → List UInt8
  | 0, _, out => out
  | n + 1, d, out => copyT n d (out ++ [out.getD (out.length - d) 0])
theorem copyT_length : ∀ (n d : Nat) (out : List UInt8), (copyT n d out).length = out.length + n
 | 0, _, _ => rfl
 | n + 1, d, out => by rw [copyT, copyT_length n d]; simp; omega
theorem copyT_pre : ∀ (n d : Nat) (out : List UInt8), ∃ x, copyT n d out = out ++ x
 | 0, _, out => ⟨[], by simp [copyT]⟩
 | n + 1, d, out => by
  obtain ⟨x, hx⟩ := copyT_pre n d (out ++ [out.getD (out.length - d) 0])
  exact ⟨_, by rw [copyT, hx, List.append_assoc]⟩
def expT (t : Tok) (out : List UInt8) : List UInt8 := if t.len = 0 then out ++ [UInt8.ofNat t.byte.toNat] else copyT t.len.toNat t.dist.toNat out
theorem expT_length {t : Tok} (h : t.right) (out : List UInt8) : (expT t out).length = out.length + t.size := by
 unfold Tok.right at h
 unfold expT Tok.size
 split
 ·rename_i h0; simp [h0]
 ·rename_i h0
  rw [if_neg h0] at h
  rw [copyT_length]; omega
theorem expT_pre (t : Tok) (out : List UInt8) : ∃ x, expT t out = out ++ x := by
 unfold expT
 split
 ·exact ⟨_, rfl⟩
 ·exact copyT_pre _ _ _
def endE (bs : List Bool) (size a n : Nat) : Nat := if n < size then 5 else if 8 ≤ bs.length - a ∨ numB bs a 8 ≠ 0 then 3 else 0
noncomputable def mvP (la lb : List Nat) (bs : List Bool) (size : Nat) : Mv := fun a out =>
  if (nextT la lb bs a).2.2.1 = true then ((nextT la lb bs a).2.1, out, true, if (nextT la lb bs a).2.2.2 ≠ 0 then (nextT la lb bs a).2.2.2 else endE bs size (nextT la lb bs a).2.1 out.length)
  else if (out.length : Int) < (nextT la lb bs a).1.dist then ((nextT la lb bs a).2.1, out, true, 3)
  else if size - out.length < (nextT la lb bs a).1.size then ((nextT la lb bs a).2.1, out, true, 5)
  else ((nextT la lb bs a).2.1, expT (nextT la lb bs a).1 out, false, 0)
theorem mvP_ok {la lb : List Nat} {bs : List Bool} {size : Nat} (oka : lensOK la) (okb : lensOK lb) : MvOk (mvP la lb bs size) size (fun a out => a ≤ bs.length ∧ out.length ≤ size) := by
 have hn := fun a ha => nextT_at (la := la) (lb := lb) (bs := bs) (a := a) oka okb ha
 refine ⟨fun a out hI => ?_, fun a out hI h => ?_, fun a out hI => hI.2, fun a out hI => ?_⟩
 ·unfold mvP
  split
  ·exact ⟨[], by simp⟩
  ·split
   ·exact ⟨[], by simp⟩
   ·split
    ·exact ⟨[], by simp⟩
    ·exact expT_pre _ _
 ·unfold mvP at h ⊢
  split at h
  ·cases h
  ·rename_i h1
   rw [if_neg h1]
   split at h
   ·cases h
   ·rename_i h2
    rw [if_neg h2]
    split at h
    ·cases h
    ·rename_i h3
     rw [if_neg h3]
     obtain ⟨k1, k2, k3⟩ := hn a hI.1
     obtain ⟨k4, k5, k6, _⟩ := k3 (by simpa using h1)
     have k7 := expT_length k6 out
     have k8 := Tok.size_le k6
     exact ⟨by simp only; omega, rfl, k2, by simp only; omega⟩
 ·unfold mvP
  split
  ·exact hI.2
  ·rename_i h1
   split
   ·exact hI.2
   ·split
    ·exact hI.2
    ·rename_i h3
     obtain ⟨k1, k2, k3⟩ := hn a hI.1
     obtain ⟨k4, k5, k6, _⟩ := k3 (by simpa using h1)
     have k7 := expT_length k6 out
     simp only; omega
def mvS (l : List UInt8) (size : Nat) : Mv := fun a out =>
  if l.length < a + 2 then (a, out, true, 2)
  else if l.length < a + 2 + leV ((l.drop a).take 2) then (a, out, true, 2)
  else if size - out.length < leV ((l.drop a).take 2) then (a, out, true, 5)
  else if 0 < leV ((l.drop a).take 2) then (a + 2 + leV ((l.drop a).take 2), out ++ (l.drop (a + 2)).take (leV ((l.drop a).take 2)), false, 0)
  else if a + 2 < l.length then (a, out, true, 3)
  else if out.length < size then (a, out, true, 5)
  else (a, out, true, 0)
theorem mvS_ok {l : List UInt8} {size : Nat} : MvOk (mvS l size) size (fun a out => a ≤ l.length ∧ out.length ≤ size) := by
 refine ⟨fun a out hI => ?_, fun a out hI h => ?_, fun a out hI => hI.2, fun a out hI => ?_⟩
 ·unfold mvS
  repeat' split
  all_goals first | exact ⟨[], (List.append_nil _).symm⟩ | exact ⟨_, rfl⟩
 ·unfold mvS at h ⊢
  repeat' split at h
  all_goals first | (cases h; done) | skip
  rename_i h1 h2 h3 h4
  rw [if_neg h1, if_neg h2, if_neg h3, if_pos h4]
  refine ⟨?_, rfl, by simp only; omega, ?_⟩ <;> simp only [List.length_append, List.length_take, List.length_drop] <;> omega
 ·unfold mvS
  repeat' split
  all_goals first | exact hI.2 | (simp only [List.length_append, List.length_take, List.length_drop]; omega)
def mvA (l : List UInt8) : Mv := fun a out => (a, out ++ l, true, 0)
theorem mvA_ok (l : List UInt8) : MvOk (mvA l) l.length (fun _ out => out = []) := by
 refine ⟨fun a out _ => ⟨l, rfl⟩, fun a out _ h => (by cases h), fun a out h => by rw [h]; simp, fun a out h => by rw [h]; simp [mvA]⟩
end Go.Bn
end

section
set_option linter.unusedVariables false
set_option linter.unusedSimpArgs false
set_option maxHeartbeats 4000000
set_option maxRecDepth 20000
namespace Go.Bn
open Go Proofs
@[reducible] def clsV (c : Kls) : List Value := [.int .i64 c.num, .int .i64 c.bits, .int .u32 c.ext]
@[reducible] def tokV (t : Tok) : List Value := [.int .u8 t.byte, .int .i64 t.len, .int .i64 t.dist]
@[reducible] def syV (r : Sy) : List Value := [.int .i64 r.a.num, .int .i64 r.a.bits, .int .u32 r.a.ext, .int .i64 r.b.num, .int .i64 r.b.bits, .int .u32 r.b.ext, .bool r.m]
theorem clsV_one (d : Kls) : ∀ u ∈ clsV d, Value.one u = true := by
 intro u hu; simp [clsV] at hu; rcases hu with rfl | rfl | rfl <;> rfl
theorem tokV_one (d : Tok) : ∀ u ∈ tokV d, Value.one u = true := by
 intro u hu; simp [tokV] at hu; rcases hu with rfl | rfl | rfl <;> rfl
theorem syV_one (d : Sy) : ∀ u ∈ syV d, Value.one u = true := by
 intro u hu; simp [syV] at hu; rcases hu with rfl | rfl | rfl | rfl | rfl | rfl | rfl <;> rfl
theorem eqL_sy (a b : Sy) : eqL (syV a) (syV b) = decide (a = b) := by
 obtain ⟨⟨_, _, _⟩, ⟨_, _, _⟩, _⟩ := a
 obtain ⟨⟨_, _, _⟩, ⟨_, _, _⟩, _⟩ := b
 rw [Bool.eq_iff_iff]; simp [eqL, eqv, and_assoc]
def lenTab : List UInt8 := (List.range 256).map fun i => UInt8.ofNat (lenN i)
theorem lenTab_get {i : Nat} (h : i < 256) : (ByteArray.mk lenTab.toArray)[i]? = some (UInt8.ofNat (lenN i)) := by
 have hs : (ByteArray.mk lenTab.toArray).size = 256 := by simp [ByteArray.size, lenTab]
 have : (ByteArray.mk lenTab.toArray)[i]? = lenTab[i]? := by
  rw [getElem?_pos _ i (by rw [hs]; exact h)]
  rw [List.getElem?_eq_getElem (by simp [lenTab]; omega)]
  rfl
 rw [this]
 simp [lenTab, h]
theorem lenN_lt {v k : Nat} (h : v < 2 ^ k) : lenN v ≤ k := by
 unfold lenN
 split
 ·omega
 ·rename_i h0; have := (Nat.log2_lt h0).2 h; omega
theorem len_shift {v : Nat} (h : 256 ≤ v) : 8 + lenN (v / 256) = lenN v := by
 have h1 : v / 256 ≠ 0 := by omega
 have h2 : v ≠ 0 := by omega
 unfold lenN
 rw [if_neg h1, if_neg h2]
 have e : Nat.log2 (v / 256) + 8 = Nat.log2 v := by
  apply Eq.symm
  rw [Nat.log2_eq_iff h2]
  have a1 := Nat.log2_self_le h1
  have a2 : v / 256 < 2 ^ (Nat.log2 (v / 256) + 1) := Nat.lt_log2_self
  have p1 : 2 ^ (Nat.log2 (v / 256) + 8) = 2 ^ Nat.log2 (v / 256) * 256 := Nat.pow_add _ _ 8
  have p2 : 2 ^ (Nat.log2 (v / 256) + 8 + 1) = 2 ^ (Nat.log2 (v / 256) + 1) * 256 := by
   rw [show Nat.log2 (v / 256) + 8 + 1 = (Nat.log2 (v / 256) + 1) + 8 by omega]; exact Nat.pow_add _ _ 8
  rw [p1, p2]
  constructor <;> omega
 omega
theorem len64_spec {v : Nat} (hv : v < 65536) (h0 : Heap) : Ret Tryz.prog 163 [.int .u64 (v : Int)] h0 fun r h' => r = .int .i64 (lenN v : Nat) ∧ h0 = h' := by
 refine ret_of_X Tryz.func163 rfl rfl fun w0 hw0 => ?_
 simp only [argE, Nat.zero_add, Nat.reduceAdd]
 refine X_seq (X_reg (XA rfl rfl rfl (XR_nil (X_seq (X_seq (X_reg (XV rfl rfl rfl ?_)))))))
 refine XR_a (op_geq rfl rfl) rfl rfl ?_
 refine XR_as (.bool false) (congrArg Value.bool (decide_eq_false (by omega))) ?_
 refine XR_nil (X_else rfl (X_skip (X_seq (X_seq (X_reg (XV rfl rfl rfl ?_))))))
 refine XR_a (op_geq rfl rfl) rfl rfl ?_
 refine XR_as (.bool false) (congrArg Value.bool (decide_eq_false (by omega))) ?_
 refine XR_nil (X_else rfl (X_skip (X_seq (X_seq (X_reg (XV rfl rfl rfl ?_))))))
 refine XR_a (op_geq rfl rfl) rfl rfl ?_
 refine XR_nil ?_
 refine X_if rfl (fun h => ?_) (fun h => ?_)
 ·refine X_seq (X_reg (XV rfl rfl rfl ?_))
  first | refine XR_a (op_shrC 8 rfl rfl (by decide)) rfl rfl ?_ | refine XR_a (op_shrN 8 rfl rfl (by decide)) rfl rfl ?_
  refine XA rfl rfl rfl (XR_nil (X_reg (XV rfl rfl rfl ?_)))
  first | refine XR_a (op_addN (n := 8) rfl rfl (by simp only [inK]; omega)) rfl rfl ?_ | refine XR_a (op_addI rfl rfl (by simp only [inK]; omega)) rfl rfl ?_ | refine XR_a (op_add rfl rfl) rfl rfl ?_
  refine XA rfl rfl rfl (XR_nil (X_seq (X_reg (XV rfl rfl rfl (XV rfl rfl rfl ?_)))))
  first | refine XR_a (op_convI rfl rfl (by simp only [inK]; omega)) rfl rfl ?_ | refine XR_a (op_convU rfl rfl rfl) rfl rfl ?_ | refine XR_a (op_conv rfl rfl) rfl rfl ?_
  have hi : v / 2 ^ 8 < 256 := by omega
  have hl := lenN_lt (v := v / 2 ^ 8) (k := 8) hi
  have hs := len_shift (v := v) (by omega)
  rw [show (256 : Nat) = 2 ^ 8 from rfl] at hs
  generalize v / 2 ^ 8 = u at *
  refine XR_a (op_indexS (s := ByteArray.mk lenTab.toArray) (i := u) (by kernel_rfl) rfl rfl (lenTab_get hi)) rfl rfl ?_
  rw [show (UInt8.ofNat (lenN u)).toNat = lenN u by simp; omega]
  first | refine XR_a (op_convI rfl rfl (by simp only [inK]; omega)) rfl rfl ?_ | refine XR_a (op_conv rfl rfl) rfl rfl ?_
  refine XR_a (op_addN (m := 8) (n := lenN u) rfl rfl (by simp only [inK]; omega)) rfl rfl ?_
  rw [hs]
  refine XA rfl rfl rfl (XR_nil ?_)
  refine X_ret (.cons (.tmp rfl) .nil) ?_
  exact ⟨rfl, rfl⟩
 ·refine X_skip (X_seq (X_reg (XV rfl rfl rfl (XV rfl rfl rfl ?_))))
  first | refine XR_a (op_convI rfl rfl (by simp only [inK]; omega)) rfl rfl ?_ | refine XR_a (op_convU rfl rfl rfl) rfl rfl ?_ | refine XR_a (op_conv rfl rfl) rfl rfl ?_
  have hl := lenN_lt (v := v) (k := 8) (by omega)
  refine XR_a (op_indexS (s := ByteArray.mk lenTab.toArray) (i := v) (by kernel_rfl) rfl rfl (lenTab_get (by omega))) rfl rfl ?_
  rw [show (UInt8.ofNat (lenN v)).toNat = lenN v by simp; omega]
  first | refine XR_a (op_convI rfl rfl (by simp only [inK]; omega)) rfl rfl ?_ | refine XR_a (op_conv rfl rfl) rfl rfl ?_
  refine XR_a (op_addN (m := 0) (n := lenN v) rfl rfl (by simp only [inK]; omega)) rfl rfl ?_
  refine XR_as (.int .i64 (lenN v : Nat)) (by rw [Nat.zero_add]) ?_
  refine XA rfl rfl rfl (XR_nil ?_)
  refine X_ret (.cons (.tmp rfl) .nil) ?_
  exact ⟨rfl, rfl⟩
theorem blen_spec {v : Nat} (hv : v < 65536) (h0 : Heap) : Ret Tryz.prog 143 [.int .u64 (v : Int)] h0 fun r h' => r = .int .i64 (lenN v : Nat) ∧ h0 = h' := by
 refine ret_of_X Tryz.func143 rfl rfl fun w0 hw0 => ?_
 simp only [argE, Nat.zero_add, Nat.reduceAdd]
 refine X_seq (X_reg (XA rfl rfl rfl (XR_nil (X_seq (X_else rfl (X_skip (X_seq (X_reg (XV rfl rfl rfl ?_)))))))))
 refine XR_wa (opl_call (len64_spec hv _) rfl (by kernel_rfl)) rfl rfl rfl ?_
 rintro _ _ ⟨rfl, rfl⟩
 refine XA rfl rfl rfl (XR_nil ?_)
 refine X_ret (.cons (.tmp rfl) .nil) ?_
 exact ⟨rfl, rfl⟩
theorem sof_spec {v : Int} (h0 : Heap) : Ret Tryz.prog 115 [.int .i64 v] h0 fun r h' => r = retVal [.agg (clsV (ofC v).1).toArray, .bool (ofC v).2] ∧ Ext h0 h' := by
 refine ret_of_X Tryz.func115 rfl rfl fun w0 hw0 => ?_
 simp only [argE, Nat.zero_add, Nat.reduceAdd]
 have st := St.start h0
 refine X_seq (X_reg ?_)
 refine XR_wa (opl_new rfl) rfl rfl rfl ?_
 rintro _ hp ⟨pp1, rfl, hnew⟩
 replace st := st.new hnew
 refine XA rfl rfl rfl (XR_nil (X_seq (X_block (X_seq (X_reg (XV rfl rfl rfl ?_))))))
 refine XR_a (op_lss rfl rfl) rfl rfl ?_
 refine XV rfl rfl rfl ?_
 refine XR_if 8 rfl (fun h => ?_) (fun h => ?_)
 ·refine XR_no rfl rfl (XR_no rfl rfl (XR_a (op_pick_t rfl rfl) rfl rfl (XA rfl rfl rfl (XR_nil (X_then rfl (X_seq (X_reg ?_)))))))
  refine XR_a (op_build (ps := []) (cs := (clsV Kls.nil).toArray) rfl rfl) rfl rfl ?_
  refine XR_wn (opl_store_whole (us := clsV Kls.nil) st 0 rfl rfl rfl rfl rfl (clsV_one _) rfl) rfl rfl fun _ hp st => ?_
  simp only [List.set_cons_zero, List.set_cons_succ] at st
  refine XA rfl rfl rfl (XR_nil ?_)
  refine X_ret (.cons (RV_agg (vs := clsV Kls.nil) rfl rfl rfl (st.cells 0 rfl)) (.cons (.tmp rfl) .nil)) ?_
  have e : ofC v = (Kls.nil, false) := by unfold ofC; rw [if_pos (by omega)]
  rw [e]
  exact ⟨rfl, st.low⟩
 ·refine XV rfl rfl rfl ?_
  refine XR_a (op_gtr rfl rfl) rfl rfl ?_
  refine XR_a (op_pick_f rfl rfl) rfl rfl (XA rfl rfl rfl (XR_nil ?_))
  refine X_if rfl (fun h => ?_) (fun h => ?_)
  ·refine X_seq (X_reg ?_)
   refine XR_a (op_build (ps := []) (cs := (clsV Kls.nil).toArray) rfl rfl) rfl rfl ?_
   refine XR_wn (opl_store_whole (us := clsV Kls.nil) st 0 rfl rfl rfl rfl rfl (clsV_one _) rfl) rfl rfl fun _ hp st => ?_
   simp only [List.set_cons_zero, List.set_cons_succ] at st
   refine XA rfl rfl rfl (XR_nil ?_)
   refine X_ret (.cons (RV_agg (vs := clsV Kls.nil) rfl rfl rfl (st.cells 0 rfl)) (.cons (.tmp rfl) .nil)) ?_
   have e : ofC v = (Kls.nil, false) := by unfold ofC; rw [if_pos (by omega)]
   rw [e]
   exact ⟨rfl, st.low⟩
  ·refine X_seq (X_reg (XV rfl rfl rfl ?_))
   refine XR_a (op_lss rfl rfl) rfl rfl ?_
   refine XA rfl rfl rfl (XR_nil ?_)
   refine X_if rfl (fun h => ?_) (fun h => ?_)
   ·obtain ⟨x, rfl⟩ : ∃ x : Nat, v = x := ⟨v.toNat, by omega⟩
    have e : ofC (x : Int) = (⟨x, 0, 0⟩, true) := by
     unfold ofC; rw [if_neg (by omega), Int.toNat_natCast, klsOf_small (by omega)]
    rw [e]
    refine X_seq (X_reg (XV rfl rfl rfl ?_))
    refine XR_a (op_build (ps := [(0, .int .i64 (x : Int))]) (cs := (clsV ⟨x, 0, 0⟩).toArray) rfl rfl) rfl rfl ?_
    refine XR_wn (opl_store_whole (us := clsV ⟨x, 0, 0⟩) st 0 rfl rfl rfl rfl rfl (clsV_one _) rfl) rfl rfl fun _ hp st => ?_
    simp only [List.set_cons_zero, List.set_cons_succ] at st
    refine XA rfl rfl rfl (XR_nil ?_)
    refine X_ret (.cons (RV_agg (vs := clsV ⟨x, 0, 0⟩) rfl rfl rfl (st.cells 0 rfl)) (.cons (.tmp rfl) .nil)) ?_
    exact ⟨rfl, st.low⟩
   ·obtain ⟨x, rfl⟩ : ∃ x : Nat, v = x := ⟨v.toNat, by omega⟩
    obtain ⟨n, q, hn, hn1, hq, hv, hc, hb, hbase, hsum⟩ := kls_spec (v := x) (by omega)
    have e : ofC (x : Int) = (⟨((2 * n + q : Nat) : Int), n, ((x % 2 ^ n : Nat) : Int)⟩, true) := by
     unfold ofC; rw [if_neg (by omega), Int.toNat_natCast, klsOf_big hc hb hbase hsum]
    rw [e]
    have hp2 : 2 * 2 ^ n ≤ x := by
     rcases hq with rfl | rfl <;> omega
    have hp0 := two_lt n
    have hn14 : n ≤ 14 := by
     have : 2 ^ n < 2 ^ 15 := by omega
     have := (Nat.pow_lt_pow_iff_right (by omega : 1 < 2)).1 this
     omega
    have hxm := Nat.mod_lt x hp0
    refine X_skip (X_blk (X_seq (X_reg (XV rfl rfl rfl ?_))))
    first | refine XR_a (op_convI rfl rfl (by simp only [inK]; omega)) rfl rfl ?_ | refine XR_a (op_convU rfl rfl rfl) rfl rfl ?_ | refine XR_a (op_conv rfl rfl) rfl rfl ?_
    refine XR_wa (opl_call (blen_spec (v := x) (by omega) _) rfl (by kernel_rfl)) rfl rfl rfl ?_
    rintro _ _ ⟨rfl, rfl⟩
    rw [hn]
    refine XR_a (op_subN (m := n + 2) (n := 2) rfl rfl (by omega) (by simp only [inK]; omega)) rfl rfl ?_
    rw [Nat.add_sub_cancel]
    refine XA rfl rfl rfl (XR_nil (X_seq ?_))
    refine X_draw byKind (by kernel_rfl) (by kernel_rfl) ?_
    refine XV rfl rfl rfl ?_
    first | refine XR_a (op_mulN (m := 2) rfl rfl (by simp only [inK]; omega)) rfl rfl ?_ | refine XR_a (op_mulI rfl rfl (by simp only [inK]; omega)) rfl rfl ?_ | refine XR_a (op_mul rfl rfl) rfl rfl ?_
    refine XV rfl rfl rfl (XV rfl rfl rfl ?_)
    refine XR_a (op_shrC (m := x) n rfl rfl (by simp only [IntKind.bits]; omega)) rfl rfl ?_
    rw [hv]
    first | refine XR_a (op_addN rfl rfl (by simp only [inK]; omega)) rfl rfl ?_ | refine XR_a (op_addI rfl rfl (by simp only [inK]; omega)) rfl rfl ?_ | refine XR_a (op_add rfl rfl) rfl rfl ?_
    refine XV rfl rfl rfl (XV rfl rfl rfl (XV rfl rfl rfl ?_))
    refine XR_a (op_shlC (m := 1) n rfl rfl (by simp only [IntKind.bits]; omega) (by simp only [inK]; omega)) rfl rfl ?_
    rw [Nat.one_mul]
    refine XR_a (op_subN (m := 2 ^ n) (n := 1) rfl rfl (by omega) (by simp only [inK]; omega)) rfl rfl ?_
    refine XR_a (op_andS (m := x) (n := 2 ^ n - 1) rfl rfl (by simp only [inK]; omega) (by simp only [inK]; omega)) rfl rfl ?_
    rw [Nat.and_two_pow_sub_one_eq_mod]
    generalize x % 2 ^ n = y at *
    first | refine XR_a (op_convI rfl rfl (by simp only [inK]; omega)) rfl rfl ?_ | refine XR_a (op_convU rfl rfl rfl) rfl rfl ?_ | refine XR_a (op_conv rfl rfl) rfl rfl ?_
    refine XR_a (op_build (ps := [(0, .int .i64 ((2 * n + q : Nat) : Int)), (1, .int .i64 (n : Int)), (2, .int .u32 (y : Int))]) (cs := (clsV ⟨((2 * n + q : Nat) : Int), n, (y : Int)⟩).toArray) rfl rfl) rfl rfl ?_
    refine XR_wn (opl_store_whole (us := clsV ⟨((2 * n + q : Nat) : Int), n, (y : Int)⟩) st 0 rfl rfl rfl rfl rfl (clsV_one _) rfl) rfl rfl fun _ hp st => ?_
    simp only [List.set_cons_zero, List.set_cons_succ] at st
    refine XA rfl rfl rfl (XR_nil ?_)
    refine X_ret (.cons (RV_agg (vs := clsV ⟨((2 * n + q : Nat) : Int), n, (y : Int)⟩) rfl rfl rfl (st.cells 0 rfl)) (.cons (.tmp rfl) .nil)) ?_
    exact ⟨rfl, st.low⟩
def baseP (i : Int) : Int × Int × Bool := if i < 0 ∨ 30 ≤ i then (0, 0, false) else (baseC i.toNat, bitsC i.toNat, true)
theorem bits14 {i : Nat} (h : i < 30) : bitsC i ≤ 13 := by unfold bitsC; split <;> omega
theorem pow13 {k : Nat} (h : k ≤ 13) : 2 ^ k ≤ 8192 := Nat.pow_le_pow_right (by omega) h
theorem sbase_spec (v : Int) (h0 : Heap) : Ret Tryz.prog 108 [.int .i64 v] h0 fun r h' => r = retVal [.int .i64 (baseP v).1, .int .i64 (baseP v).2.1, .bool (baseP v).2.2] ∧ h0 = h' := by
 refine ret_of_X Tryz.func108 rfl rfl fun w0 hw0 => ?_
 simp only [argE, Nat.zero_add, Nat.reduceAdd]
 refine X_seq (X_reg (XA rfl rfl rfl (XA rfl rfl rfl (XA rfl rfl rfl (XR_nil (X_seq (X_block (X_seq (X_reg ?_)))))))))
 refine XV rfl rfl rfl ?_
 refine XR_a (op_lss rfl rfl) rfl rfl ?_
 refine XV rfl rfl rfl ?_
 refine XR_if 9 rfl (fun h => ?_) (fun h => ?_)
 ·refine XR_no rfl rfl (XR_no rfl rfl (XR_a (op_pick_t rfl rfl) rfl rfl (XA rfl rfl rfl (XR_nil (X_then rfl (X_seq (X_reg (XA rfl rfl rfl (XA rfl rfl rfl ?_)))))))))
  refine XA rfl rfl rfl (XR_nil ?_)
  refine X_ret (.cons (.tmp rfl) (.cons (.tmp rfl) (.cons (.tmp rfl) .nil))) ?_
  have e : baseP v = (0, 0, false) := by unfold baseP; rw [if_pos (by omega)]
  rw [e]
  exact ⟨rfl, rfl⟩
 ·refine XV rfl rfl rfl ?_
  refine XR_a (op_geq rfl rfl) rfl rfl ?_
  refine XR_a (op_pick_f rfl rfl) rfl rfl (XA rfl rfl rfl (XR_nil ?_))
  refine X_if rfl (fun h => ?_) (fun h => ?_)
  ·refine X_seq (X_reg (XA rfl rfl rfl (XA rfl rfl rfl (XA rfl rfl rfl (XR_nil ?_)))))
   refine X_ret (.cons (.tmp rfl) (.cons (.tmp rfl) (.cons (.tmp rfl) .nil))) ?_
   have e : baseP v = (0, 0, false) := by unfold baseP; rw [if_pos (by omega)]
   rw [e]
   exact ⟨rfl, rfl⟩
  ·refine X_seq (X_reg (XV rfl rfl rfl ?_))
   refine XR_a (op_lss rfl rfl) rfl rfl ?_
   refine XA rfl rfl rfl (XR_nil ?_)
   refine X_if rfl (fun h => ?_) (fun h => ?_)
   ·obtain ⟨x, rfl⟩ : ∃ x : Nat, v = x := ⟨v.toNat, by omega⟩
    have e : baseP (x : Int) = ((x : Int), 0, true) := by
     unfold baseP; rw [if_neg (by omega), Int.toNat_natCast, baseC_small _ (by omega)]
     unfold bitsC; rw [if_pos (by omega)]; rfl
    rw [e]
    refine X_seq (X_reg (XV rfl rfl rfl (XA rfl rfl rfl (XA rfl rfl rfl (XA rfl rfl rfl (XR_nil ?_))))))
    refine X_ret (.cons (.tmp rfl) (.cons (.tmp rfl) (.cons (.tmp rfl) .nil))) ?_
    exact ⟨rfl, rfl⟩
   ·obtain ⟨x, rfl⟩ : ∃ x : Nat, v = x := ⟨v.toNat, by omega⟩
    have e : baseP (x : Int) = ((((2 + x % 2) * 2 ^ (x / 2 - 1) : Nat) : Int), ((x / 2 - 1 : Nat) : Int), true) := by
     unfold baseP; rw [if_neg (by omega), Int.toNat_natCast, baseC_form _ (by omega)]
     unfold bitsC; rw [if_neg (by omega)]
    rw [e]
    have hk : x / 2 - 1 ≤ 13 := by omega
    have hp := pow13 hk
    refine X_skip (X_blk (X_seq (X_reg (XV rfl rfl rfl ?_))))
    first | refine XR_a (op_quoN (n := 2) rfl rfl (by omega) (by simp only [inK]; omega)) rfl rfl ?_ | refine XR_a (op_quoI rfl rfl (by omega) (by omega) (by simp only [inK]; omega)) rfl rfl ?_ | refine XR_a (op_quo rfl rfl (by omega)) rfl rfl ?_
    refine XR_a (op_subN (m := x / 2) (n := 1) rfl rfl (by omega) (by simp only [inK]; omega)) rfl rfl ?_
    have hx2 : 2 + x % 2 ≤ 3 := by omega
    generalize x / 2 - 1 = k at *
    refine XA rfl rfl rfl (XR_nil (X_seq (X_reg (XV rfl rfl rfl ?_))))
    first | refine XR_a (op_remN (n := 2) rfl rfl (by omega)) rfl rfl ?_ | refine XR_a (op_remI rfl rfl (by omega) (by omega)) rfl rfl ?_ | refine XR_a (op_rem rfl rfl (by omega)) rfl rfl ?_
    first | refine XR_a (op_addN (m := 2) rfl rfl (by simp only [inK]; omega)) rfl rfl ?_ | refine XR_a (op_addI rfl rfl (by simp only [inK]; omega)) rfl rfl ?_ | refine XR_a (op_add rfl rfl) rfl rfl ?_
    refine XV rfl rfl rfl ?_
    have hb : (2 + x % 2) * 2 ^ k ≤ 3 * 8192 := Nat.mul_le_mul hx2 hp
    refine XR_a (op_shlC (m := 2 + x % 2) k rfl rfl (by simp only [IntKind.bits]; omega) (by simp only [inK]; omega)) rfl rfl ?_
    refine XV rfl rfl rfl (XA rfl rfl rfl (XA rfl rfl rfl (XA rfl rfl rfl (XR_nil ?_))))
    refine X_ret (.cons (.tmp rfl) (.cons (.tmp rfl) (.cons (.tmp rfl) .nil))) ?_
    exact ⟨rfl, rfl⟩
theorem sbase_yes {v : Int} {i : Nat} (hi : v = i) (h : i < 30) (h0 : Heap) : Ret Tryz.prog 108 [.int .i64 v] h0 fun r h' => r = retVal [.int .i64 (baseC i : Nat), .int .i64 (bitsC i : Nat), .bool true] ∧ h0 = h' := by
 have e := sbase_spec v h0
 rw [show baseP v = ((baseC i : Int), (bitsC i : Int), true) by unfold baseP; rw [if_neg (by omega), hi, Int.toNat_natCast]] at e
 exact e
theorem sbase_no {v : Int} (h : v < 0 ∨ 30 ≤ v) (h0 : Heap) : Ret Tryz.prog 108 [.int .i64 v] h0 fun r h' => r = retVal [.int .i64 0, .int .i64 0, .bool false] ∧ h0 = h' := by
 have e := sbase_spec v h0
 rw [show baseP v = (0, 0, false) by unfold baseP; rw [if_pos h]] at e
 exact e
def valP (c : Kls) : Int × Bool := match valC c with
  | some v => ((v : Int), true)
  | none => (0, false)
theorem valP_some {c : Kls} {v : Nat} (h : valC c = some v) : valP c = ((v : Int), true) := by unfold valP; rw [h]
theorem valP_none {c : Kls} (h : valC c = none) : valP c = (0, false) := by unfold valP; rw [h]
theorem valC_none1 {c : Kls} (h : c.num < 0 ∨ 30 ≤ c.num) : valC c = none := by unfold valC; rw [if_pos h]
theorem valC_none2 {c : Kls} {i : Nat} (hi : c.num = i) (h : c.bits ≠ bitsC i) : valC c = none := by
 unfold valC
 split
 ·rfl
 ·rw [if_pos (by rw [hi]; exact h)]
theorem valC_none3 {c : Kls} {i e : Nat} (hi : c.num = i) (he : c.ext = e) (h : 2 ^ bitsC i ≤ e) : valC c = none := by
 unfold valC
 split
 ·rfl
 ·split
  ·rfl
  ·have hp : ((2 ^ bitsC i : Nat) : Int) = (2 : Int) ^ bitsC i := by rw [Int.natCast_pow]; rfl
   rw [if_pos (by rw [hi, he, Int.toNat_natCast, ← hp]; omega)]
theorem valC_yes {c : Kls} {i e : Nat} (hi : c.num = i) (h30 : i < 30) (hb : c.bits = bitsC i) (he : c.ext = e) (h : e < 2 ^ bitsC i) : valC c = some (baseC i + e) := by
 have hp : ((2 ^ bitsC i : Nat) : Int) = (2 : Int) ^ bitsC i := by rw [Int.natCast_pow]; rfl
 unfold valC
 rw [if_neg (by omega), hi, Int.toNat_natCast, if_neg (by rw [hb]; simp), if_neg (by rw [he, ← hp]; omega), he, Int.toNat_natCast]
theorem base30 {i : Nat} (h : i < 30) : baseC i + 2 ^ bitsC i ≤ 32768 := by
 have := baseC_mono (show i + 1 ≤ 30 by omega)
 rw [baseC, show baseC 30 = 32768 by decide] at this
 exact this
theorem sval_spec {c : Kls} (hx : 0 ≤ c.ext ∧ c.ext < 4294967296) (h0 : Heap) : Ret Tryz.prog 141 [.agg #[.int .i64 c.num, .int .i64 c.bits, .int .u32 c.ext]] h0 fun r h' => r = retVal [.int .i64 (valP c).1, .bool (valP c).2] ∧ Ext h0 h' := by
 refine ret_of_X Tryz.func141 rfl rfl fun w0 hw0 => ?_
 simp only [argE, Nat.zero_add, Nat.reduceAdd]
 have st := St.start h0
 refine X_seq (X_reg ?_)
 refine XR_wa (opl_bx rfl rfl) rfl rfl rfl ?_
 rintro _ hp ⟨p, rfl, hnew⟩
 have st := st.new hnew
 refine XA rfl rfl rfl (XA rfl rfl rfl (XR_nil (X_seq (X_reg ?_))))
 first | refine XR_a (op_field0 rfl rfl) rfl rfl ?_ | refine XR_a (op_fieldn rfl rfl) rfl rfl ?_
 by_cases hr : c.num < 0 ∨ 30 ≤ c.num
 ·refine XR_a (op_ld (by first | assumption | exact st.cell 0 rfl rfl | exact st.cell 1 rfl rfl | exact st.cell 2 rfl rfl | exact st.cell 3 rfl rfl) rfl rfl rfl) rfl rfl ?_
  refine XR_wa (opl_call (sbase_no hr _) rfl (by kernel_rfl)) rfl rfl rfl ?_
  rintro _ _ ⟨rfl, rfl⟩
  refine XV rfl rfl rfl (XR_a (op_extract rfl rfl) rfl rfl (XR_a (op_extract rfl rfl) rfl rfl (XR_a (op_extract rfl rfl) rfl rfl (XA rfl rfl rfl (XA rfl rfl rfl (XA rfl rfl rfl (XR_nil (X_seq (X_seq ?_)))))))))
  refine X_reg (XV rfl rfl rfl ?_)
  first | refine XR_a (op_notd rfl) rfl rfl ?_ | refine XR_a (op_not rfl) rfl rfl ?_
  refine XV rfl rfl rfl (XR_no rfl rfl (XR_no rfl rfl (XR_no rfl rfl (XR_no rfl rfl (XR_a (op_pick_t rfl rfl) rfl rfl (XV rfl rfl rfl (XR_no rfl rfl (XR_no rfl rfl (XR_no rfl rfl ?_)))))))))
  refine XR_no rfl rfl (XR_no rfl rfl (XR_a (op_pick_t rfl rfl) rfl rfl (XR_nil (X_then rfl (X_seq (X_reg (XA rfl rfl rfl (XA rfl rfl rfl (XR_nil ?_)))))))))
  refine X_ret (.cons (.tmp rfl) (.cons (.tmp rfl) .nil)) ?_
  rw [valP_none (valC_none1 hr)]
  exact ⟨rfl, st.low⟩
 ·obtain ⟨i, hi⟩ : ∃ i : Nat, c.num = i := ⟨c.num.toNat, by omega⟩
  obtain ⟨e, he⟩ : ∃ e : Nat, c.ext = e := ⟨c.ext.toNat, by omega⟩
  have h30 : i < 30 := by omega
  have hk := bits14 h30
  have hp := pow13 hk
  have hp0 := two_lt (bitsC i)
  have hbase := base30 h30
  refine XR_a (op_ld (by first | assumption | exact st.cell 0 rfl rfl | exact st.cell 1 rfl rfl | exact st.cell 2 rfl rfl | exact st.cell 3 rfl rfl) rfl rfl rfl) rfl rfl ?_
  refine XR_wa (opl_call (sbase_yes hi h30 _) rfl (by kernel_rfl)) rfl rfl rfl ?_
  rintro _ _ ⟨rfl, rfl⟩
  refine XV rfl rfl rfl (XR_a (op_extract rfl rfl) rfl rfl (XR_a (op_extract rfl rfl) rfl rfl (XR_a (op_extract rfl rfl) rfl rfl (XA rfl rfl rfl (XA rfl rfl rfl (XA rfl rfl rfl (XR_nil (X_seq (X_seq ?_)))))))))
  refine X_reg (XV rfl rfl rfl ?_)
  first | refine XR_a (op_notd rfl) rfl rfl ?_ | refine XR_a (op_not rfl) rfl rfl ?_
  refine XV rfl rfl rfl (XV rfl rfl rfl ?_)
  first | refine XR_a (op_field0 rfl rfl) rfl rfl ?_ | refine XR_a (op_fieldn rfl rfl) rfl rfl ?_
  refine XR_a (op_ld (by first | assumption | exact st.cell 0 rfl rfl | exact st.cell 1 rfl rfl | exact st.cell 2 rfl rfl | exact st.cell 3 rfl rfl) rfl rfl rfl) rfl rfl ?_
  refine XR_a (op_neq rfl rfl) rfl rfl ?_
  refine XR_a (op_pick_f rfl rfl) rfl rfl (XV rfl rfl rfl ?_)
  refine XR_if 22 rfl (fun h => ?_) (fun h => ?_)
  ·refine XR_no rfl rfl (XR_no rfl rfl (XR_no rfl rfl (XR_no rfl rfl (XR_no rfl rfl (XR_a (op_pick_t rfl rfl) rfl rfl (XR_nil (X_then rfl (X_seq (X_reg ?_)))))))))
   refine XA rfl rfl rfl (XA rfl rfl rfl (XR_nil ?_))
   refine X_ret (.cons (.tmp rfl) (.cons (.tmp rfl) .nil)) ?_
   rw [valP_none (valC_none2 hi (fun hh => h (by rw [hh])))]
   exact ⟨rfl, st.low⟩
  ·first | refine XR_a (op_field0 rfl rfl) rfl rfl ?_ | refine XR_a (op_fieldn rfl rfl) rfl rfl ?_
   refine XR_a (op_ld (by first | assumption | exact st.cell 0 rfl rfl | exact st.cell 1 rfl rfl | exact st.cell 2 rfl rfl | exact st.cell 3 rfl rfl) rfl rfl rfl) rfl rfl ?_
   refine XV rfl rfl rfl ?_
   rw [he]
   refine XR_a (op_shrA (m := e) (bitsC i) rfl rfl (by simp only [IntKind.bits]; omega)) rfl rfl ?_
   refine XR_a (op_neq rfl rfl) rfl rfl ?_
   refine XR_a (op_pick_f rfl rfl) rfl rfl (XR_nil ?_)
   refine X_if rfl (fun h => ?_) (fun h => ?_)
   ·have hge : 2 ^ bitsC i ≤ e := by
     rcases Nat.lt_or_ge e (2 ^ bitsC i) with hlt | hge
     ·exact absurd (by rw [Nat.div_eq_of_lt hlt]; rfl) h
     ·exact hge
    refine X_seq (X_reg (XA rfl rfl rfl (XA rfl rfl rfl (XR_nil ?_))))
    refine X_ret (.cons (.tmp rfl) (.cons (.tmp rfl) .nil)) ?_
    rw [valP_none (valC_none3 hi he hge)]
    exact ⟨rfl, st.low⟩
   ·have hlt : e < 2 ^ bitsC i := by
     rcases Nat.lt_or_ge e (2 ^ bitsC i) with hlt | hge
     ·exact hlt
     ·have : 0 < e / 2 ^ bitsC i := Nat.div_pos hge hp0
      omega
    have hbb : c.bits = bitsC i := by omega
    rw [valP_some (valC_yes hi h30 hbb he hlt)]
    refine X_skip (X_seq (X_reg (XV rfl rfl rfl ?_)))
    first | refine XR_a (op_field0 rfl rfl) rfl rfl ?_ | refine XR_a (op_fieldn rfl rfl) rfl rfl ?_
    refine XR_a (op_ld (st.cell 0 (i := 2) rfl rfl) rfl rfl rfl) rfl rfl ?_
    first | refine XR_a (op_convI rfl rfl (by simp only [inK]; omega)) rfl rfl ?_ | refine XR_a (op_conv rfl rfl) rfl rfl ?_
    refine XR_as (.int .i64 (e : Int)) (by rw [he]) ?_
    first | refine XR_a (op_addN rfl rfl (by simp only [inK]; omega)) rfl rfl ?_ | refine XR_a (op_addI rfl rfl (by simp only [inK]; omega)) rfl rfl ?_ | refine XR_a (op_add rfl rfl) rfl rfl ?_
    refine XA rfl rfl rfl (XA rfl rfl rfl (XR_nil ?_))
    refine X_ret (.cons (.tmp rfl) (.cons (.tmp rfl) .nil)) ?_
    exact ⟨rfl, st.low⟩
end Go.Bn
end

section
set_option linter.unusedVariables false
set_option linter.unusedSimpArgs false
set_option maxHeartbeats 4000000
set_option maxRecDepth 20000
namespace Go.Bn
open Go Proofs
theorem tin_spec (a b c : Int) (h0 : Heap) : Ret Tryz.prog 142 [.int .i64 a, .int .i64 b, .int .i64 c] h0 fun r h' => r = .bool (decide (b ≤ a ∧ a ≤ c)) ∧ h0 = h' := by
 refine ret_of_X Tryz.func142 rfl rfl fun w0 hw0 => ?_
 simp only [argE, Nat.zero_add, Nat.reduceAdd]
 refine X_seq (X_reg (XA rfl rfl rfl (XR_nil (X_seq (X_reg (XV rfl rfl rfl (XV rfl rfl rfl ?_)))))))
 refine XR_a (op_geq rfl rfl) rfl rfl ?_
 refine XV rfl rfl rfl ?_
 refine XR_if 10 rfl (fun h => ?_) (fun h => ?_)
 ·refine XV rfl rfl rfl (XV rfl rfl rfl ?_)
  refine XR_a (op_leq rfl rfl) rfl rfl ?_
  refine XR_a (op_pick_t rfl rfl) rfl rfl (XA rfl rfl rfl (XR_nil ?_))
  refine X_ret (.cons (.tmp rfl) .nil) ?_
  first
   | exact ⟨congrArg Value.bool (decide_eq_false (by omega)).symm, rfl⟩
   | exact ⟨congrArg Value.bool (decide_eq_decide.2 ⟨fun hh => by omega, fun hh => by omega⟩), rfl⟩
 ·refine XR_no rfl rfl (XR_no rfl rfl (XR_no rfl rfl (XR_a (op_pick_f rfl rfl) rfl rfl (XA rfl rfl rfl (XR_nil ?_)))))
  refine X_ret (.cons (.tmp rfl) .nil) ?_
  first
   | exact ⟨congrArg Value.bool (decide_eq_false (by omega)).symm, rfl⟩
   | exact ⟨congrArg Value.bool (decide_eq_decide.2 ⟨fun hh => by omega, fun hh => by omega⟩), rfl⟩
theorem tright_spec (t : Tok) (h0 : Heap) : Ret Tryz.prog 114 [.agg #[.int .u8 t.byte, .int .i64 t.len, .int .i64 t.dist]] h0 fun r h' => r = .bool (decide t.right) ∧ Ext h0 h' := by
 refine ret_of_X Tryz.func114 rfl rfl fun w0 hw0 => ?_
 simp only [argE, Nat.zero_add, Nat.reduceAdd]
 have st := St.start h0
 unfold Tok.right
 refine X_seq (X_reg ?_)
 refine XR_wa (opl_bx rfl rfl) rfl rfl rfl ?_
 rintro _ hp ⟨p, rfl, hnew⟩
 have st := st.new hnew
 refine XA rfl rfl rfl (XR_nil (X_seq (X_seq (X_reg ?_))))
 first | refine XR_a (op_field0 rfl rfl) rfl rfl ?_ | refine XR_a (op_fieldn rfl rfl) rfl rfl ?_
 refine XR_a (op_ld (st.cell 0 (i := 1) rfl rfl) rfl rfl rfl) rfl rfl ?_
 refine XR_a (op_eql rfl rfl) rfl rfl ?_
 refine XR_nil ?_
 refine X_if rfl (fun h => ?_) (fun h => ?_)
 ·refine X_seq (X_reg ?_)
  first | refine XR_a (op_field0 rfl rfl) rfl rfl ?_ | refine XR_a (op_fieldn rfl rfl) rfl rfl ?_
  refine XR_a (op_ld (st.cell 0 (i := 2) rfl rfl) rfl rfl rfl) rfl rfl ?_
  refine XR_a (op_eql rfl rfl) rfl rfl ?_
  refine XA rfl rfl rfl (XR_nil ?_)
  refine X_ret (.cons (.tmp rfl) .nil) ?_
  refine ⟨congrArg Value.bool (decide_eq_decide.2 ?_), st.low⟩
  rw [if_pos h]
 ·have hlen := h
  refine X_skip (X_seq (X_reg ?_))
  first | refine XR_a (op_field0 rfl rfl) rfl rfl ?_ | refine XR_a (op_fieldn rfl rfl) rfl rfl ?_
  refine XR_a (op_ld (st.cell 0 (i := 0) rfl rfl) rfl rfl rfl) rfl rfl ?_
  refine XR_a (op_eql rfl rfl) rfl rfl ?_
  refine XV rfl rfl rfl ?_
  refine XR_if 12 rfl (fun h => ?_) (fun h => ?_)
  ·first | refine XR_a (op_field0 rfl rfl) rfl rfl ?_ | refine XR_a (op_fieldn rfl rfl) rfl rfl ?_
   refine XR_a (op_ld (st.cell 0 (i := 1) rfl rfl) rfl rfl rfl) rfl rfl ?_
   refine XR_wa (opl_call (tin_spec _ _ _ _) rfl (by kernel_rfl)) rfl rfl rfl ?_
   rintro _ _ ⟨rfl, rfl⟩
   refine XR_a (op_pick_t rfl rfl) rfl rfl (XV rfl rfl rfl ?_)
   refine XR_if 17 rfl (fun h => ?_) (fun h => ?_)
   ·first | refine XR_a (op_field0 rfl rfl) rfl rfl ?_ | refine XR_a (op_fieldn rfl rfl) rfl rfl ?_
    refine XR_a (op_ld (st.cell 0 (i := 2) rfl rfl) rfl rfl rfl) rfl rfl ?_
    refine XR_wa (opl_call (tin_spec _ _ _ _) rfl (by kernel_rfl)) rfl rfl rfl ?_
    rintro _ _ ⟨rfl, rfl⟩
    refine XR_a (op_pick_t rfl rfl) rfl rfl (XA rfl rfl rfl (XR_nil ?_))
    refine X_ret (.cons (.tmp rfl) .nil) ?_
    refine ⟨congrArg Value.bool (decide_eq_decide.2 ?_), st.low⟩
    rw [if_neg hlen]
    rename_i hb
    exact ⟨fun hh => ⟨hb, h.1, h.2, hh.1, hh.2⟩, fun hh => ⟨hh.2.2.2.1, hh.2.2.2.2⟩⟩
   ·refine XR_no rfl rfl (XR_no rfl rfl (XR_no rfl rfl (XR_a (op_pick_f rfl rfl) rfl rfl (XA rfl rfl rfl (XR_nil ?_)))))
    refine X_ret (.cons (.tmp rfl) .nil) ?_
    refine ⟨congrArg Value.bool (decide_eq_false ?_).symm, st.low⟩
    rw [if_neg hlen]
    rintro ⟨h1, h2, h3, h4⟩; exact h ⟨h2, h3⟩
  ·refine XR_no rfl rfl (XR_no rfl rfl (XR_no rfl rfl (XR_a (op_pick_f rfl rfl) rfl rfl (XV rfl rfl rfl (XR_no rfl rfl (XR_no rfl rfl (XR_no rfl rfl (XR_a (op_pick_f rfl rfl) rfl rfl (XA rfl rfl rfl ?_)))))))))
   refine XR_nil ?_
   refine X_ret (.cons (.tmp rfl) .nil) ?_
   refine ⟨congrArg Value.bool (decide_eq_false ?_).symm, st.low⟩
   rw [if_neg hlen]
   rintro ⟨h1, _⟩; exact h h1
theorem ssplit_spec {t : Tok} (hb : 0 ≤ t.byte ∧ t.byte < 256) (h0 : Heap) : Ret Tryz.prog 77 [.agg #[.int .u8 t.byte, .int .i64 t.len, .int .i64 t.dist]] h0 fun r h' => r = retVal [.agg (syV (splitT t).1).toArray, .bool (splitT t).2] ∧ Ext h0 h' := by
 refine ret_of_X Tryz.func77 rfl rfl fun w0 hw0 => ?_
 simp only [argE, Nat.zero_add, Nat.reduceAdd]
 have st := St.start h0
 refine X_seq (X_reg ?_)
 refine XR_wa (opl_bx rfl rfl) rfl rfl rfl ?_
 rintro _ hp ⟨p, rfl, hnew⟩
 have st := st.new hnew
 refine XR_wa (opl_new rfl) rfl rfl rfl ?_
 rintro _ hp ⟨pp1, rfl, hnew⟩
 replace st := st.new hnew
 refine XA rfl rfl rfl (XR_nil (X_seq (X_seq (X_reg ?_))))
 refine XR_a (op_ldA (st.cells 1 rfl) rfl rfl rfl rfl) rfl rfl ?_
 refine XR_wa (opl_call (tright_spec t _) rfl (by kernel_rfl)) rfl rfl rfl ?_
 rintro _ hp ⟨rfl, hx⟩
 replace st := st.ext hx
 first | refine XR_a (op_notd rfl) rfl rfl ?_ | refine XR_a (op_not rfl) rfl rfl ?_
 refine XR_nil ?_
 refine X_if rfl (fun h => ?_) (fun h => ?_)
 ·refine X_seq (X_reg ?_)
  refine XR_a (op_build (ps := []) (cs := (syV Sy.nil).toArray) rfl rfl) rfl rfl ?_
  refine XR_wn (opl_store_whole (us := syV Sy.nil) st 0 rfl rfl rfl rfl rfl (syV_one _) rfl) rfl rfl fun _ hp st => ?_
  simp only [List.set_cons_zero, List.set_cons_succ] at st
  refine XA rfl rfl rfl (XR_nil ?_)
  refine X_ret (.cons (RV_agg (vs := syV Sy.nil) rfl rfl rfl (st.cells 0 rfl)) (.cons (.tmp rfl) .nil)) ?_
  have e : splitT t = (Sy.nil, false) := by unfold splitT; rw [if_neg h]
  rw [e]
  exact ⟨rfl, st.low⟩
 ·have hr := Decidable.not_not.1 h
  have e : splitT t = (splitY t, true) := by unfold splitT; rw [if_pos hr]
  rw [e]
  refine X_skip (X_seq (X_seq (X_reg ?_)))
  first | refine XR_a (op_field0 rfl rfl) rfl rfl ?_ | refine XR_a (op_fieldn rfl rfl) rfl rfl ?_
  refine XR_a (op_ld (st.cell 1 (i := 1) rfl rfl) rfl rfl rfl) rfl rfl ?_
  refine XR_a (op_eql rfl rfl) rfl rfl ?_
  refine XR_nil ?_
  refine X_if rfl (fun h => ?_) (fun h => ?_)
  ·have e1 : splitY t = ⟨⟨t.byte, 0, 0⟩, Kls.nil, false⟩ := by unfold splitY; rw [if_pos h]
   rw [e1]
   refine X_seq (X_reg ?_)
   first | refine XR_a (op_field0 rfl rfl) rfl rfl ?_ | refine XR_a (op_fieldn rfl rfl) rfl rfl ?_
   refine XR_a (op_ld (st.cell 1 (i := 0) rfl rfl) rfl rfl rfl) rfl rfl ?_
   refine XR_a (op_conv rfl rfl) rfl rfl ?_
   refine XR_as (.int .i64 t.byte) (by rw [wrap_in (by simp only [inK]; omega)]) ?_
   refine XR_a (op_build (ps := [(0, .int .i64 t.byte)]) (cs := (clsV ⟨t.byte, 0, 0⟩).toArray) rfl rfl) rfl rfl ?_
   refine XR_a (op_build (ps := [(0, .agg (clsV ⟨t.byte, 0, 0⟩).toArray)]) (cs := (syV ⟨⟨t.byte, 0, 0⟩, Kls.nil, false⟩).toArray) rfl rfl) rfl rfl ?_
   refine XR_wn (opl_store_whole (us := syV ⟨⟨t.byte, 0, 0⟩, Kls.nil, false⟩) st 0 rfl rfl rfl rfl rfl (syV_one _) rfl) rfl rfl fun _ hp st => ?_
   simp only [List.set_cons_zero, List.set_cons_succ] at st
   refine XA rfl rfl rfl (XR_nil ?_)
   refine X_ret (.cons (RV_agg (vs := syV ⟨⟨t.byte, 0, 0⟩, Kls.nil, false⟩) rfl rfl rfl (st.cells 0 rfl)) (.cons (.tmp rfl) .nil)) ?_
   exact ⟨rfl, st.low⟩
  ·have hr' := hr
   unfold Tok.right at hr'
   rw [if_neg h] at hr'
   obtain ⟨r1, r2, r3, r4, r5⟩ := hr'
   have e1 : splitY t = ⟨⟨(klsOf (t.len - 3).toNat).num + 257, (klsOf (t.len - 3).toNat).bits, (klsOf (t.len - 3).toNat).ext⟩, klsOf (t.dist - 1).toNat, true⟩ := by unfold splitY; rw [if_neg h]
   have o1 : ofC (t.len - 3) = (klsOf (t.len - 3).toNat, true) := by unfold ofC; rw [if_neg (by omega)]
   have o2 : ofC (t.dist - 1) = (klsOf (t.dist - 1).toNat, true) := by unfold ofC; rw [if_neg (by omega)]
   have k1 := klsN_255 (v := (t.len - 3).toNat) (by omega)
   have n1 : (klsOf (t.len - 3).toNat).num = klsN (t.len - 3).toNat := rfl
   rw [e1]
   refine X_skip (X_seq (X_reg ?_))
   first | refine XR_a (op_field0 rfl rfl) rfl rfl ?_ | refine XR_a (op_fieldn rfl rfl) rfl rfl ?_
   refine XR_a (op_ld (st.cell 1 (i := 1) rfl rfl) rfl rfl rfl) rfl rfl ?_
   refine XR_a (op_subI rfl rfl (by simp only [inK]; omega)) rfl rfl ?_
   refine XR_wa (opl_call (sof_spec _) rfl (by kernel_rfl)) rfl rfl rfl ?_
   rintro _ hp ⟨rfl, hx⟩
   replace st := st.ext hx
   rw [o1]
   generalize klsOf (t.len - 3).toNat = a at *
   generalize klsOf (t.dist - 1).toNat = b at *
   refine XV rfl rfl rfl (XR_a (op_extract rfl rfl) rfl rfl (XR_a (op_extract rfl rfl) rfl rfl ?_))
   refine XR_wa (opl_new rfl) rfl rfl rfl ?_
   rintro _ hp ⟨pp2, rfl, hnew⟩
   replace st := st.new hnew
   refine XR_wn (opl_store_whole (us := clsV a) st 0 rfl rfl rfl rfl rfl (clsV_one _) rfl) rfl rfl fun _ hp st => ?_
   simp only [List.set_cons_zero, List.set_cons_succ] at st
   refine XA rfl rfl rfl (XR_nil (X_seq (X_reg ?_)))
   first | refine XR_a (op_field0 rfl rfl) rfl rfl ?_ | refine XR_a (op_fieldn rfl rfl) rfl rfl ?_
   refine XR_a (op_ld (st.cell 2 (i := 2) rfl rfl) rfl rfl rfl) rfl rfl ?_
   refine XR_a (op_subI rfl rfl (by simp only [inK]; omega)) rfl rfl ?_
   refine XR_wa (opl_call (sof_spec _) rfl (by kernel_rfl)) rfl rfl rfl ?_
   rintro _ hp ⟨rfl, hx⟩
   replace st := st.ext hx
   rw [o2]
   refine XV rfl rfl rfl (XR_a (op_extract rfl rfl) rfl rfl (XR_a (op_extract rfl rfl) rfl rfl ?_))
   refine XR_wa (opl_new rfl) rfl rfl rfl ?_
   rintro _ hp ⟨pp3, rfl, hnew⟩
   replace st := st.new hnew
   refine XR_wn (opl_store_whole (us := clsV b) st 0 rfl rfl rfl rfl rfl (clsV_one _) rfl) rfl rfl fun _ hp st => ?_
   simp only [List.set_cons_zero, List.set_cons_succ] at st
   refine XA rfl rfl rfl (XR_nil (X_seq (X_reg ?_)))
   first | refine XR_a (op_field0 rfl rfl) rfl rfl ?_ | refine XR_a (op_fieldn rfl rfl) rfl rfl ?_
   refine XR_a (op_ld (st.cell 1 (i := 0) rfl rfl) rfl rfl rfl) rfl rfl ?_
   refine XR_a (op_addI rfl rfl (by simp only [inK]; omega)) rfl rfl ?_
   first | refine XR_a (op_field0 rfl rfl) rfl rfl ?_ | refine XR_a (op_fieldn rfl rfl) rfl rfl ?_
   refine XR_wn (opl_store_pt st 1 rfl rfl rfl rfl rfl (rfl)) rfl rfl fun _ hp st => ?_
   simp only [List.set_cons_zero, List.set_cons_succ] at st
   refine XR_nil (X_seq (X_reg ?_))
   refine XR_a (op_ldA (vs := clsV ⟨a.num + 257, a.bits, a.ext⟩) (st.cells 1 rfl) rfl rfl rfl rfl) rfl rfl ?_
   refine XR_a (op_ldA (vs := clsV b) (st.cells 0 rfl) rfl rfl rfl rfl) rfl rfl ?_
   refine XR_a (op_build (ps := [(0, .agg (clsV ⟨a.num + 257, a.bits, a.ext⟩).toArray), (1, .agg (clsV b).toArray), (2, .bool true)]) (cs := (syV ⟨⟨a.num + 257, a.bits, a.ext⟩, b, true⟩).toArray) rfl rfl) rfl rfl ?_
   refine XR_wn (opl_store_whole (us := syV ⟨⟨a.num + 257, a.bits, a.ext⟩, b, true⟩) st 2 rfl rfl rfl rfl rfl (syV_one _) rfl) rfl rfl fun _ hp st => ?_
   simp only [List.set_cons_zero, List.set_cons_succ] at st
   refine XA rfl rfl rfl (XR_nil ?_)
   refine X_ret (.cons (RV_agg (vs := syV ⟨⟨a.num + 257, a.bits, a.ext⟩, b, true⟩) rfl rfl rfl (st.cells 2 rfl)) (.cons (.tmp rfl) .nil)) ?_
   exact ⟨rfl, st.low⟩
end Go.Bn
end

section
set_option linter.unusedVariables false
set_option linter.unusedSimpArgs false
set_option maxHeartbeats 4000000
set_option maxRecDepth 20000
namespace Go.Bn
open Go Proofs
theorem valP_bd {c : Kls} : 0 ≤ (valP c).1 ∧ (valP c).1 < 65536 := by
 unfold valP
 split
 ·rename_i v hv; have := valC_lt hv; simp only; omega
 ·simp
theorem matchT_eq (a b : Kls) (m : Bool) : matchT ⟨a, b, m⟩ = if (valP ⟨a.num - 257, a.bits, a.ext⟩).2 = true ∧ (valP b).2 = true ∧ (Tok.mk 0 ((valP ⟨a.num - 257, a.bits, a.ext⟩).1 + 3) ((valP b).1 + 1)).right then (Tok.mk 0 ((valP ⟨a.num - 257, a.bits, a.ext⟩).1 + 3) ((valP b).1 + 1), true) else (Tok.nil, false) := by
 unfold matchT valP
 simp only
 cases hx : valC ⟨a.num - 257, a.bits, a.ext⟩ with
 | none => simp
 | some x =>
  cases hy : valC b with
  | none => simp
  | some y => simp
theorem smatch_spec {a b : Kls} {m : Bool} (ha : 0 ≤ a.ext ∧ a.ext < 4294967296) (hb : 0 ≤ b.ext ∧ b.ext < 4294967296) (hn : 257 ≤ a.num ∧ a.num < 273) (h0 : Heap) : Ret Tryz.prog 110 [.agg #[.int .i64 a.num, .int .i64 a.bits, .int .u32 a.ext, .int .i64 b.num, .int .i64 b.bits, .int .u32 b.ext, .bool m]] h0 fun r h' => r = retVal [.agg (tokV (matchT ⟨a, b, m⟩).1).toArray, .bool (matchT ⟨a, b, m⟩).2] ∧ Ext h0 h' := by
 rw [matchT_eq]
 have bx := valP_bd (c := ⟨a.num - 257, a.bits, a.ext⟩)
 have by_ := valP_bd (c := b)
 refine ret_of_X Tryz.func110 rfl rfl fun w0 hw0 => ?_
 simp only [argE, Nat.zero_add, Nat.reduceAdd]
 have st := St.start h0
 refine X_seq (X_reg ?_)
 refine XR_wa (opl_bx rfl rfl) rfl rfl rfl ?_
 rintro _ hp ⟨p, rfl, hnew⟩
 have st := st.new hnew
 refine XR_wa (opl_new rfl) rfl rfl rfl ?_
 rintro _ hp ⟨pp1, rfl, hnew⟩
 replace st := st.new hnew
 refine XA rfl rfl rfl (XR_nil (X_seq (X_reg ?_)))
 first | refine XR_a (op_field0 rfl rfl) rfl rfl ?_ | refine XR_a (op_fieldn rfl rfl) rfl rfl ?_
 refine XR_a (op_ldA (st.part 1 0 [] (clsV a) (clsV b ++ [.bool m]) rfl rfl) rfl rfl rfl rfl) rfl rfl ?_
 refine XR_wa (opl_new rfl) rfl rfl rfl ?_
 rintro _ hp ⟨pp2, rfl, hnew⟩
 replace st := st.new hnew
 refine XR_wn (opl_store_whole (us := clsV a) st 0 rfl rfl rfl rfl rfl (clsV_one _) rfl) rfl rfl fun _ hp st => ?_
 simp only [List.set_cons_zero, List.set_cons_succ] at st
 refine XR_nil (X_seq (X_reg ?_))
 first | refine XR_a (op_field0 rfl rfl) rfl rfl ?_ | refine XR_a (op_fieldn rfl rfl) rfl rfl ?_
 refine XR_a (op_ld (st.cell 0 (i := 0) rfl rfl) rfl rfl rfl) rfl rfl ?_
 refine XR_a (op_subI rfl rfl (by simp only [inK]; omega)) rfl rfl ?_
 first | refine XR_a (op_field0 rfl rfl) rfl rfl ?_ | refine XR_a (op_fieldn rfl rfl) rfl rfl ?_
 refine XR_wn (opl_store_pt st 0 rfl rfl rfl rfl rfl (rfl)) rfl rfl fun _ hp st => ?_
 simp only [List.set_cons_zero, List.set_cons_succ] at st
 refine XR_nil (X_seq (X_reg ?_))
 refine XR_a (op_ldA (vs := clsV ⟨a.num - 257, a.bits, a.ext⟩) (st.cells 0 rfl) rfl rfl rfl rfl) rfl rfl ?_
 refine XR_wa (opl_call (sval_spec (c := ⟨a.num - 257, a.bits, a.ext⟩) ha _) rfl (by kernel_rfl)) rfl rfl rfl ?_
 rintro _ hp ⟨rfl, hx1⟩
 replace st := st.ext hx1
 refine XV rfl rfl rfl (XR_a (op_extract rfl rfl) rfl rfl (XR_a (op_extract rfl rfl) rfl rfl (XA rfl rfl rfl (XA rfl rfl rfl (XR_nil (X_seq (X_reg ?_)))))))
 first | refine XR_a (op_field0 rfl rfl) rfl rfl ?_ | refine XR_a (op_fieldn rfl rfl) rfl rfl ?_
 refine XR_a (op_ldA (st.part 2 3 (clsV a) (clsV b) [.bool m] rfl rfl) rfl rfl rfl rfl) rfl rfl ?_
 refine XR_wa (opl_call (sval_spec (c := b) hb _) rfl (by kernel_rfl)) rfl rfl rfl ?_
 rintro _ hp ⟨rfl, hx2⟩
 replace st := st.ext hx2
 generalize valP ⟨a.num - 257, a.bits, a.ext⟩ = X at *
 generalize valP b = Y at *
 refine XV rfl rfl rfl (XR_a (op_extract rfl rfl) rfl rfl (XR_a (op_extract rfl rfl) rfl rfl (XA rfl rfl rfl (XA rfl rfl rfl (XR_nil (X_seq (X_reg (XV rfl rfl rfl ?_))))))))
 refine XR_a (op_addI rfl rfl (by simp only [inK]; omega)) rfl rfl ?_
 refine XV rfl rfl rfl ?_
 refine XR_a (op_addI rfl rfl (by simp only [inK]; omega)) rfl rfl ?_
 refine XR_a (op_build (ps := [(1, .int .i64 (X.1 + 3)), (2, .int .i64 (Y.1 + 1))]) (cs := (tokV ⟨0, X.1 + 3, Y.1 + 1⟩).toArray) rfl rfl) rfl rfl ?_
 generalize Tok.mk 0 (X.1 + 3) (Y.1 + 1) = T at *
 refine XR_wa (opl_new rfl) rfl rfl rfl ?_
 rintro _ hp ⟨pp3, rfl, hnew⟩
 replace st := st.new hnew
 by_cases hX : X.2 = true
 ·have st := st
  refine XR_wn (opl_store_whole (us := tokV T) st 0 rfl rfl rfl rfl rfl (tokV_one _) rfl) rfl rfl fun _ hp st => ?_
  simp only [List.set_cons_zero, List.set_cons_succ] at st
  refine XR_nil (X_seq (X_seq (X_reg (XV rfl rfl rfl ?_))))
  by_cases hY : Y.2 = true
  ·have st := st
   refine XR_a (op_not rfl) rfl rfl ?_
   refine XR_as (.bool false) (by rw [hX]; rfl) ?_
   refine XV rfl rfl rfl (XV rfl rfl rfl ?_)
   refine XR_a (op_not rfl) rfl rfl ?_
   refine XR_as (.bool false) (by rw [hY]; rfl) ?_
   refine XR_a (op_pick_f rfl rfl) rfl rfl (XV rfl rfl rfl ?_)
   refine XR_a (op_ldA (st.cells 0 rfl) rfl rfl rfl rfl) rfl rfl ?_
   refine XR_wa (opl_call (tright_spec T _) rfl (by kernel_rfl)) rfl rfl rfl ?_
   rintro _ hp ⟨rfl, hx3⟩
   replace st := st.ext hx3
   first | refine XR_a (op_notd rfl) rfl rfl ?_ | refine XR_a (op_not rfl) rfl rfl ?_
   refine XR_a (op_pick_f rfl rfl) rfl rfl (XR_nil ?_)
   refine X_if rfl (fun h => ?_) (fun h => ?_)
   ·refine X_seq (X_reg ?_)
    refine XR_a (op_build (ps := []) (cs := (tokV Tok.nil).toArray) rfl rfl) rfl rfl ?_
    refine XR_wn (opl_store_whole (us := tokV Tok.nil) st 2 rfl rfl rfl rfl rfl (tokV_one _) rfl) rfl rfl fun _ hp st => ?_
    simp only [List.set_cons_zero, List.set_cons_succ] at st
    refine XA rfl rfl rfl (XR_nil ?_)
    refine X_ret (.cons (RV_agg (vs := tokV Tok.nil) rfl rfl rfl (st.cells 2 rfl)) (.cons (.tmp rfl) .nil)) ?_
    rw [if_neg (fun hh => h hh.2.2)]
    exact ⟨rfl, st.low⟩
   ·refine X_skip (X_seq (X_reg ?_))
    refine XR_a (op_ldA (st.cells 0 rfl) rfl rfl rfl rfl) rfl rfl ?_
    refine XR_wn (opl_store_whole (us := tokV T) st 2 rfl rfl rfl rfl rfl (tokV_one _) rfl) rfl rfl fun _ hp st => ?_
    simp only [List.set_cons_zero, List.set_cons_succ] at st
    refine XA rfl rfl rfl (XR_nil ?_)
    refine X_ret (.cons (RV_agg (vs := tokV T) rfl rfl rfl (st.cells 2 rfl)) (.cons (.tmp rfl) .nil)) ?_
    rw [if_pos ⟨hX, hY, Decidable.not_not.1 h⟩]
    exact ⟨rfl, st.low⟩
  ·have hY' : Y.2 = false := by simpa using hY
   refine XR_a (op_not rfl) rfl rfl ?_
   refine XR_as (.bool false) (by rw [hX]; rfl) ?_
   refine XV rfl rfl rfl (XV rfl rfl rfl ?_)
   refine XR_a (op_not rfl) rfl rfl ?_
   refine XR_as (.bool true) (by rw [hY']; rfl) ?_
   refine XR_a (op_pick_f rfl rfl) rfl rfl (XV rfl rfl rfl (XR_no rfl rfl (XR_no rfl rfl (XR_no rfl rfl (XR_a (op_pick_t rfl rfl) rfl rfl (XR_nil (X_then rfl (X_seq (X_reg ?_)))))))))
   refine XR_a (op_build (ps := []) (cs := (tokV Tok.nil).toArray) rfl rfl) rfl rfl ?_
   refine XR_wn (opl_store_whole (us := tokV Tok.nil) st 2 rfl rfl rfl rfl rfl (tokV_one _) rfl) rfl rfl fun _ hp st => ?_
   simp only [List.set_cons_zero, List.set_cons_succ] at st
   refine XA rfl rfl rfl (XR_nil ?_)
   refine X_ret (.cons (RV_agg (vs := tokV Tok.nil) rfl rfl rfl (st.cells 2 rfl)) (.cons (.tmp rfl) .nil)) ?_
   rw [if_neg (fun hh => hY hh.2.1)]
   exact ⟨rfl, st.low⟩
 ·have hX' : X.2 = false := by simpa using hX
  refine XR_wn (opl_store_whole (us := tokV T) st 0 rfl rfl rfl rfl rfl (tokV_one _) rfl) rfl rfl fun _ hp st => ?_
  simp only [List.set_cons_zero, List.set_cons_succ] at st
  refine XR_nil (X_seq (X_seq (X_reg (XV rfl rfl rfl ?_))))
  refine XR_a (op_not rfl) rfl rfl ?_
  refine XR_as (.bool true) (by rw [hX']; rfl) ?_
  refine XV rfl rfl rfl (XR_no rfl rfl (XR_no rfl rfl (XR_a (op_pick_t rfl rfl) rfl rfl (XV rfl rfl rfl (XR_no rfl rfl (XR_no rfl rfl (XR_no rfl rfl (XR_a (op_pick_t rfl rfl) rfl rfl (XR_nil ?_)))))))))
  refine X_then rfl (X_seq (X_reg ?_))
  refine XR_a (op_build (ps := []) (cs := (tokV Tok.nil).toArray) rfl rfl) rfl rfl ?_
  refine XR_wn (opl_store_whole (us := tokV Tok.nil) st 2 rfl rfl rfl rfl rfl (tokV_one _) rfl) rfl rfl fun _ hp st => ?_
  simp only [List.set_cons_zero, List.set_cons_succ] at st
  refine XA rfl rfl rfl (XR_nil ?_)
  refine X_ret (.cons (RV_agg (vs := tokV Tok.nil) rfl rfl rfl (st.cells 2 rfl)) (.cons (.tmp rfl) .nil)) ?_
  rw [if_neg (fun hh => hX hh.1)]
  exact ⟨rfl, st.low⟩
theorem joinT_m {a b : Kls} (h : 257 ≤ a.num ∧ a.num < 273) : joinT ⟨a, b, true⟩ = matchT ⟨a, b, true⟩ := by
 unfold joinT; rw [if_pos rfl, if_pos h]
theorem joinT_m0 {a b : Kls} (h : ¬ (257 ≤ a.num ∧ a.num < 273)) : joinT ⟨a, b, true⟩ = (Tok.nil, false) := by
 unfold joinT; rw [if_pos rfl, if_neg h]
theorem joinT_b {a b : Kls} (h : 0 ≤ a.num ∧ a.num < 256) (e : Sy.mk a b false = ⟨⟨a.num, 0, 0⟩, Kls.nil, false⟩) : joinT ⟨a, b, false⟩ = (⟨a.num, 0, 0⟩, true) := by
 unfold joinT; rw [if_neg (by simp), if_pos ⟨h.1, h.2, e⟩]
theorem joinT_b0 {a b : Kls} (h : ¬ (0 ≤ a.num ∧ a.num < 256 ∧ Sy.mk a b false = ⟨⟨a.num, 0, 0⟩, Kls.nil, false⟩)) : joinT ⟨a, b, false⟩ = (Tok.nil, false) := by
 unfold joinT; rw [if_neg (by simp), if_neg h]
theorem sjoin_t {a b : Kls} (ha : 0 ≤ a.ext ∧ a.ext < 4294967296) (hb : 0 ≤ b.ext ∧ b.ext < 4294967296) (h0 : Heap) : Ret Tryz.prog 68 [.agg #[.int .i64 a.num, .int .i64 a.bits, .int .u32 a.ext, .int .i64 b.num, .int .i64 b.bits, .int .u32 b.ext, .bool true]] h0 fun r h' => r = retVal [.agg (tokV (joinT ⟨a, b, true⟩).1).toArray, .bool (joinT ⟨a, b, true⟩).2] ∧ Ext h0 h' := by
 refine ret_of_X Tryz.func68 rfl rfl fun w0 hw0 => ?_
 simp only [argE, Nat.zero_add, Nat.reduceAdd]
 have st := St.start h0
 refine X_seq (X_reg ?_)
 refine XR_wa (opl_bx rfl rfl) rfl rfl rfl ?_
 rintro _ hp ⟨p, rfl, hnew⟩
 have st := st.new hnew
 refine XR_wa (opl_new rfl) rfl rfl rfl ?_
 rintro _ hp ⟨pp1, rfl, hnew⟩
 replace st := st.new hnew
 refine XA rfl rfl rfl (XR_nil (X_seq (X_seq (X_reg ?_))))
 first | refine XR_a (op_field0 rfl rfl) rfl rfl ?_ | refine XR_a (op_fieldn rfl rfl) rfl rfl ?_
 refine XR_a (op_ld (st.cell 1 (i := 6) rfl rfl) rfl rfl rfl) rfl rfl ?_
 refine XV rfl rfl rfl ?_
 first | refine XR_a (op_field0 rfl rfl) rfl rfl ?_ | refine XR_a (op_fieldn rfl rfl) rfl rfl ?_
 first | refine XR_a (op_field0 rfl rfl) rfl rfl ?_ | refine XR_a (op_fieldn rfl rfl) rfl rfl ?_
 refine XR_a (op_ld (st.cell 1 (i := 0) rfl rfl) rfl rfl rfl) rfl rfl ?_
 refine XR_a (op_geq rfl rfl) rfl rfl ?_
 refine XR_a (op_pick_t rfl rfl) rfl rfl (XV rfl rfl rfl ?_)
 refine XR_if 13 rfl (fun h => ?_) (fun h => ?_)
 ·first | refine XR_a (op_field0 rfl rfl) rfl rfl ?_ | refine XR_a (op_fieldn rfl rfl) rfl rfl ?_
  first | refine XR_a (op_field0 rfl rfl) rfl rfl ?_ | refine XR_a (op_fieldn rfl rfl) rfl rfl ?_
  refine XR_a (op_ld (st.cell 1 (i := 0) rfl rfl) rfl rfl rfl) rfl rfl ?_
  refine XR_a (op_lss rfl rfl) rfl rfl ?_
  refine XR_a (op_pick_t rfl rfl) rfl rfl (XR_nil ?_)
  refine X_if rfl (fun h => ?_) (fun h => ?_)
  ·rw [joinT_m (by omega)]
   refine X_seq (X_reg ?_)
   refine XR_a (op_ldA (vs := syV ⟨a, b, true⟩) (st.cells 1 rfl) rfl rfl rfl rfl) rfl rfl ?_
   refine XR_wa (opl_call (smatch_spec (a := a) (b := b) (m := true) ha hb (by omega) _) rfl (by kernel_rfl)) rfl rfl rfl ?_
   rintro _ hp ⟨rfl, hx1⟩
   replace st := st.ext hx1
   generalize matchT ⟨a, b, true⟩ = M at *
   refine XR_a (op_extract rfl rfl) rfl rfl (XR_a (op_extract rfl rfl) rfl rfl ?_)
   refine XR_wn (opl_store_whole (us := tokV M.1) st 0 rfl rfl rfl rfl rfl (tokV_one _) rfl) rfl rfl fun _ hp st => ?_
   simp only [List.set_cons_zero, List.set_cons_succ] at st
   refine XA rfl rfl rfl (XR_nil ?_)
   refine X_ret (.cons (RV_agg (vs := tokV M.1) rfl rfl rfl (st.cells 0 rfl)) (.cons (.tmp rfl) .nil)) ?_
   exact ⟨rfl, st.low⟩
  ·refine X_skip (X_seq (X_reg ?_))
   first | refine XR_a (op_field0 rfl rfl) rfl rfl ?_ | refine XR_a (op_fieldn rfl rfl) rfl rfl ?_
   first | refine XR_a (op_field0 rfl rfl) rfl rfl ?_ | refine XR_a (op_fieldn rfl rfl) rfl rfl ?_
   refine XR_a (op_ld (st.cell 1 (i := 0) rfl rfl) rfl rfl rfl) rfl rfl ?_
   refine XA rfl rfl rfl (XR_nil (X_seq (X_seq (X_reg ?_))))
   first | refine XR_a (op_field0 rfl rfl) rfl rfl ?_ | refine XR_a (op_fieldn rfl rfl) rfl rfl ?_
   refine XR_a (op_ld (st.cell 1 (i := 6) rfl rfl) rfl rfl rfl) rfl rfl ?_
   refine XV rfl rfl rfl (XR_no rfl rfl (XR_no rfl rfl (XR_a (op_pick_t rfl rfl) rfl rfl (XV rfl rfl rfl (XR_no rfl rfl (XR_no rfl rfl (XR_a (op_pick_t rfl rfl) rfl rfl (XV rfl rfl rfl (XR_no rfl rfl ?_)))))))))
   refine XR_no rfl rfl (XR_no rfl rfl (XR_no rfl rfl (XR_no rfl rfl (XR_a (op_pick_t rfl rfl) rfl rfl (XR_nil (X_then rfl (X_seq (X_reg ?_))))))))
   refine XR_a (op_build (ps := []) (cs := (tokV Tok.nil).toArray) rfl rfl) rfl rfl ?_
   refine XR_wn (opl_store_whole (us := tokV Tok.nil) st 0 rfl rfl rfl rfl rfl (tokV_one _) rfl) rfl rfl fun _ hp st => ?_
   simp only [List.set_cons_zero, List.set_cons_succ] at st
   refine XA rfl rfl rfl (XR_nil ?_)
   refine X_ret (.cons (RV_agg (vs := tokV Tok.nil) rfl rfl rfl (st.cells 0 rfl)) (.cons (.tmp rfl) .nil)) ?_
   rw [joinT_m0 (by omega)]
   exact ⟨rfl, st.low⟩
 ·refine XR_no rfl rfl (XR_no rfl rfl (XR_no rfl rfl (XR_no rfl rfl (XR_a (op_pick_f rfl rfl) rfl rfl (XR_nil (X_else rfl (X_skip (X_seq (X_reg ?_)))))))))
  first | refine XR_a (op_field0 rfl rfl) rfl rfl ?_ | refine XR_a (op_fieldn rfl rfl) rfl rfl ?_
  first | refine XR_a (op_field0 rfl rfl) rfl rfl ?_ | refine XR_a (op_fieldn rfl rfl) rfl rfl ?_
  refine XR_a (op_ld (st.cell 1 (i := 0) rfl rfl) rfl rfl rfl) rfl rfl ?_
  refine XA rfl rfl rfl (XR_nil (X_seq (X_seq (X_reg ?_))))
  first | refine XR_a (op_field0 rfl rfl) rfl rfl ?_ | refine XR_a (op_fieldn rfl rfl) rfl rfl ?_
  refine XR_a (op_ld (st.cell 1 (i := 6) rfl rfl) rfl rfl rfl) rfl rfl ?_
  refine XV rfl rfl rfl (XR_no rfl rfl (XR_no rfl rfl (XR_a (op_pick_t rfl rfl) rfl rfl (XV rfl rfl rfl (XR_no rfl rfl (XR_no rfl rfl (XR_a (op_pick_t rfl rfl) rfl rfl (XV rfl rfl rfl (XR_no rfl rfl ?_)))))))))
  refine XR_no rfl rfl (XR_no rfl rfl (XR_no rfl rfl (XR_no rfl rfl (XR_a (op_pick_t rfl rfl) rfl rfl (XR_nil (X_then rfl (X_seq (X_reg ?_))))))))
  refine XR_a (op_build (ps := []) (cs := (tokV Tok.nil).toArray) rfl rfl) rfl rfl ?_
  refine XR_wn (opl_store_whole (us := tokV Tok.nil) st 0 rfl rfl rfl rfl rfl (tokV_one _) rfl) rfl rfl fun _ hp st => ?_
  simp only [List.set_cons_zero, List.set_cons_succ] at st
  refine XA rfl rfl rfl (XR_nil ?_)
  refine X_ret (.cons (RV_agg (vs := tokV Tok.nil) rfl rfl rfl (st.cells 0 rfl)) (.cons (.tmp rfl) .nil)) ?_
  rw [joinT_m0 (by omega)]
  exact ⟨rfl, st.low⟩
theorem sjoin_f {a b : Kls} (h0 : Heap) : Ret Tryz.prog 68 [.agg #[.int .i64 a.num, .int .i64 a.bits, .int .u32 a.ext, .int .i64 b.num, .int .i64 b.bits, .int .u32 b.ext, .bool false]] h0 fun r h' => r = retVal [.agg (tokV (joinT ⟨a, b, false⟩).1).toArray, .bool (joinT ⟨a, b, false⟩).2] ∧ Ext h0 h' := by
 refine ret_of_X Tryz.func68 rfl rfl fun w0 hw0 => ?_
 simp only [argE, Nat.zero_add, Nat.reduceAdd]
 have st := St.start h0
 refine X_seq (X_reg ?_)
 refine XR_wa (opl_bx rfl rfl) rfl rfl rfl ?_
 rintro _ hp ⟨p, rfl, hnew⟩
 have st := st.new hnew
 refine XR_wa (opl_new rfl) rfl rfl rfl ?_
 rintro _ hp ⟨pp1, rfl, hnew⟩
 replace st := st.new hnew
 refine XA rfl rfl rfl (XR_nil (X_seq (X_seq (X_reg ?_))))
 first | refine XR_a (op_field0 rfl rfl) rfl rfl ?_ | refine XR_a (op_fieldn rfl rfl) rfl rfl ?_
 refine XR_a (op_ld (st.cell 1 (i := 6) rfl rfl) rfl rfl rfl) rfl rfl ?_
 refine XV rfl rfl rfl (XR_no rfl rfl (XR_no rfl rfl (XR_no rfl rfl (XR_no rfl rfl (XR_a (op_pick_f rfl rfl) rfl rfl (XV rfl rfl rfl (XR_no rfl rfl (XR_no rfl rfl (XR_no rfl rfl ?_)))))))))
 refine XR_no rfl rfl (XR_a (op_pick_f rfl rfl) rfl rfl (XR_nil (X_else rfl (X_skip (X_seq (X_reg ?_))))))
 first | refine XR_a (op_field0 rfl rfl) rfl rfl ?_ | refine XR_a (op_fieldn rfl rfl) rfl rfl ?_
 first | refine XR_a (op_field0 rfl rfl) rfl rfl ?_ | refine XR_a (op_fieldn rfl rfl) rfl rfl ?_
 refine XR_a (op_ld (st.cell 1 (i := 0) rfl rfl) rfl rfl rfl) rfl rfl ?_
 refine XA rfl rfl rfl (XR_nil (X_seq (X_seq (X_reg ?_))))
 first | refine XR_a (op_field0 rfl rfl) rfl rfl ?_ | refine XR_a (op_fieldn rfl rfl) rfl rfl ?_
 refine XR_a (op_ld (st.cell 1 (i := 6) rfl rfl) rfl rfl rfl) rfl rfl ?_
 refine XV rfl rfl rfl (XV rfl rfl rfl ?_)
 refine XR_a (op_lss rfl rfl) rfl rfl ?_
 refine XR_a (op_pick_f rfl rfl) rfl rfl (XV rfl rfl rfl ?_)
 refine XR_if 32 rfl (fun h => ?_) (fun h => ?_)
 ·refine XR_no rfl rfl (XR_no rfl rfl (XR_a (op_pick_t rfl rfl) rfl rfl (XV rfl rfl rfl (XR_no rfl rfl (XR_no rfl rfl (XR_no rfl rfl (XR_no rfl rfl (XR_no rfl rfl (XR_a (op_pick_t rfl rfl) rfl rfl ?_)))))))))
  refine XR_nil (X_then rfl (X_seq (X_reg ?_)))
  refine XR_a (op_build (ps := []) (cs := (tokV Tok.nil).toArray) rfl rfl) rfl rfl ?_
  refine XR_wn (opl_store_whole (us := tokV Tok.nil) st 0 rfl rfl rfl rfl rfl (tokV_one _) rfl) rfl rfl fun _ hp st => ?_
  simp only [List.set_cons_zero, List.set_cons_succ] at st
  refine XA rfl rfl rfl (XR_nil ?_)
  refine X_ret (.cons (RV_agg (vs := tokV Tok.nil) rfl rfl rfl (st.cells 0 rfl)) (.cons (.tmp rfl) .nil)) ?_
  first
   | rw [joinT_b0 (fun hh => by omega)]
   | rw [joinT_b0 (fun hh => h hh.2.2)]
  exact ⟨rfl, st.low⟩
 ·refine XV rfl rfl rfl ?_
  refine XR_a (op_geq rfl rfl) rfl rfl ?_
  refine XR_a (op_pick_f rfl rfl) rfl rfl (XV rfl rfl rfl ?_)
  refine XR_if 36 rfl (fun h => ?_) (fun h => ?_)
  ·refine XR_no rfl rfl (XR_no rfl rfl (XR_no rfl rfl (XR_no rfl rfl (XR_no rfl rfl (XR_a (op_pick_t rfl rfl) rfl rfl (XR_nil (X_then rfl (X_seq (X_reg ?_)))))))))
   refine XR_a (op_build (ps := []) (cs := (tokV Tok.nil).toArray) rfl rfl) rfl rfl ?_
   refine XR_wn (opl_store_whole (us := tokV Tok.nil) st 0 rfl rfl rfl rfl rfl (tokV_one _) rfl) rfl rfl fun _ hp st => ?_
   simp only [List.set_cons_zero, List.set_cons_succ] at st
   refine XA rfl rfl rfl (XR_nil ?_)
   refine X_ret (.cons (RV_agg (vs := tokV Tok.nil) rfl rfl rfl (st.cells 0 rfl)) (.cons (.tmp rfl) .nil)) ?_
   first
    | rw [joinT_b0 (fun hh => by omega)]
    | rw [joinT_b0 (fun hh => h hh.2.2)]
   exact ⟨rfl, st.low⟩
  ·refine XR_a (op_ldA (vs := syV ⟨a, b, false⟩) (st.cells 1 rfl) rfl rfl rfl rfl) rfl rfl ?_
   refine XV rfl rfl rfl ?_
   refine XR_a (op_build (ps := [(0, .int .i64 a.num)]) (cs := (clsV ⟨a.num, 0, 0⟩).toArray) rfl rfl) rfl rfl ?_
   refine XR_a (op_build (ps := [(0, .agg (clsV ⟨a.num, 0, 0⟩).toArray)]) (cs := (syV ⟨⟨a.num, 0, 0⟩, Kls.nil, false⟩).toArray) rfl rfl) rfl rfl ?_
   refine XR_a (op_neqH rfl rfl (neq_flat (ks := [.i .i64, .i .i64, .i .u32, .i .i64, .i .i64, .i .u32, .b]) (by kernel_rfl) (by kernel_rfl) rfl rfl) (by kernel_rfl)) rfl rfl ?_
   refine XR_as (.bool (decide (Sy.mk a b false ≠ ⟨⟨a.num, 0, 0⟩, Kls.nil, false⟩))) (congrArg Value.bool ?_) ?_
   ·rw [eqL_sy]; simp
   refine XR_a (op_pick_f rfl rfl) rfl rfl (XR_nil ?_)
   refine X_if rfl (fun h => ?_) (fun h => ?_)
   ·refine X_seq (X_reg ?_)
    refine XR_a (op_build (ps := []) (cs := (tokV Tok.nil).toArray) rfl rfl) rfl rfl ?_
    refine XR_wn (opl_store_whole (us := tokV Tok.nil) st 0 rfl rfl rfl rfl rfl (tokV_one _) rfl) rfl rfl fun _ hp st => ?_
    simp only [List.set_cons_zero, List.set_cons_succ] at st
    refine XA rfl rfl rfl (XR_nil ?_)
    refine X_ret (.cons (RV_agg (vs := tokV Tok.nil) rfl rfl rfl (st.cells 0 rfl)) (.cons (.tmp rfl) .nil)) ?_
    first
     | rw [joinT_b0 (fun hh => by omega)]
     | rw [joinT_b0 (fun hh => h hh.2.2)]
    exact ⟨rfl, st.low⟩
   ·refine X_skip (X_seq (X_reg (XV rfl rfl rfl ?_)))
    refine XR_a (op_convI rfl rfl (by simp only [inK]; omega)) rfl rfl ?_
    refine XR_a (op_build (ps := [(0, .int .u8 a.num)]) (cs := (tokV ⟨a.num, 0, 0⟩).toArray) rfl rfl) rfl rfl ?_
    refine XR_wn (opl_store_whole (us := tokV ⟨a.num, 0, 0⟩) st 0 rfl rfl rfl rfl rfl (tokV_one _) rfl) rfl rfl fun _ hp st => ?_
    simp only [List.set_cons_zero, List.set_cons_succ] at st
    refine XA rfl rfl rfl (XR_nil ?_)
    refine X_ret (.cons (RV_agg (vs := tokV ⟨a.num, 0, 0⟩) rfl rfl rfl (st.cells 0 rfl)) (.cons (.tmp rfl) .nil)) ?_
    rw [joinT_b (by omega) (Decidable.not_not.1 h)]
    exact ⟨rfl, st.low⟩
theorem sjoin_spec {r : Sy} (ha : 0 ≤ r.a.ext ∧ r.a.ext < 4294967296) (hb : 0 ≤ r.b.ext ∧ r.b.ext < 4294967296) (h0 : Heap) : Ret Tryz.prog 68 [.agg (syV r).toArray] h0 fun v h' => v = retVal [.agg (tokV (joinT r).1).toArray, .bool (joinT r).2] ∧ Ext h0 h' := by
 obtain ⟨a, b, m⟩ := r
 cases m with
 | true => exact sjoin_t ha hb h0
 | false => exact sjoin_f h0
end Go.Bn
end

section
set_option linter.unusedVariables false
set_option linter.unusedSimpArgs false
set_option maxHeartbeats 4000000
set_option maxRecDepth 20000
namespace Go.Bn
open Go Proofs
@[reducible] def gC (n : Nat) (v : Value) (e : Nat) : List Value := [nV n, v, nV e]
end Go.Bn
end
