/- Plain lemmas on classes and symbols. -/
import Derived.Test.YtigbhndidohgbaaPBits
set_option linter.unusedVariables false
set_option linter.unusedSimpArgs false
namespace Go.Bn
/-- A class: its number, how many bits are behind it, and these. -/
structure Kls where
  num : Int
  bits : Int
  ext : Int
  deriving DecidableEq
def Kls.nil : Kls := ⟨0, 0, 0⟩
def bitsC (i : Nat) : Nat := if i < 4 then 0 else i / 2 - 1
def baseC : Nat → Nat
  | 0 => 0
  | i + 1 => baseC i + 2 ^ bitsC i
def lenN (v : Nat) : Nat := if v = 0 then 0 else Nat.log2 v + 1
theorem two_lt (k : Nat) : 0 < 2 ^ k := Nat.pow_pos (by omega)
theorem baseC_even (n : Nat) : baseC (2 * (n + 1) + 2) = 2 * 2 ^ (n + 1) ∧ baseC (2 * (n + 1) + 3) = 3 * 2 ^ (n + 1) := by
  induction n with
  | zero => decide
  | succ n ih =>
    have b3 : bitsC (2 * (n + 1) + 3) = n + 1 := by unfold bitsC; rw [if_neg (by omega)]; omega
    have b2 : bitsC (2 * (n + 1 + 1) + 2) = n + 1 + 1 := by unfold bitsC; rw [if_neg (by omega)]; omega
    have e1 : baseC (2 * (n + 1 + 1) + 2) = baseC (2 * (n + 1) + 3) + 2 ^ (n + 1) := by
      rw [show 2 * (n + 1 + 1) + 2 = (2 * (n + 1) + 3) + 1 by omega, baseC, b3]
    have e2 : baseC (2 * (n + 1 + 1) + 3) = baseC (2 * (n + 1 + 1) + 2) + 2 ^ (n + 1 + 1) := by
      conv => lhs; rw [show 2 * (n + 1 + 1) + 3 = (2 * (n + 1 + 1) + 2) + 1 from rfl, baseC, b2]
    rw [ih.2] at e1
    refine ⟨by rw [e1, Nat.pow_succ 2 (n + 1)]; omega, by rw [e2, e1, Nat.pow_succ 2 (n + 1)]; omega⟩
/-- The least number of a class, as the program has it. -/
theorem baseC_form (i : Nat) (h : 4 ≤ i) : baseC i = (2 + i % 2) * 2 ^ (i / 2 - 1) := by
  rcases (by omega : i % 2 = 0 ∨ i % 2 = 1) with h2 | h2
  · obtain ⟨n, rfl⟩ : ∃ n, i = 2 * (n + 1) + 2 := ⟨i / 2 - 2, by omega⟩
    rw [(baseC_even n).1, h2, show (2 * (n + 1) + 2) / 2 - 1 = n + 1 by omega]
  · obtain ⟨n, rfl⟩ : ∃ n, i = 2 * (n + 1) + 3 := ⟨i / 2 - 2, by omega⟩
    rw [(baseC_even n).2, h2, show (2 * (n + 1) + 3) / 2 - 1 = n + 1 by omega]
theorem baseC_small : ∀ i, i < 5 → baseC i = i := by decide
theorem baseC_lt (i : Nat) : baseC i < baseC (i + 1) := by
  rw [baseC]; have := two_lt (bitsC i); omega
theorem baseC_mono {i j : Nat} (h : i ≤ j) : baseC i ≤ baseC j := by
  induction j with
  | zero =>
    obtain rfl : i = 0 := by omega
    exact Nat.le_refl _
  | succ j ih =>
    rcases Nat.lt_or_ge j i with h1 | h1
    · obtain rfl : i = j + 1 := by omega
      exact Nat.le_refl _
    · have := ih h1; have := baseC_lt j; omega
/-- A number's class. -/
def klsN (v : Nat) : Nat := if v < 4 then v else 2 * (lenN v - 2) + v / 2 ^ (lenN v - 2)
theorem len_spec {v : Nat} (h : 4 ≤ v) : 3 ≤ lenN v ∧ 2 ^ (lenN v - 1) ≤ v ∧ v < 2 ^ lenN v := by
  have h0 : v ≠ 0 := by omega
  have e : lenN v = Nat.log2 v + 1 := by unfold lenN; rw [if_neg h0]
  have h1 := Nat.log2_self_le h0
  have h2 : v < 2 ^ (Nat.log2 v + 1) := Nat.lt_log2_self
  have h3 : 2 ≤ Nat.log2 v := (Nat.le_log2 h0).2 (by omega)
  rw [e]
  exact ⟨by omega, by simpa using h1, h2⟩
theorem kls_spec {v : Nat} (h : 4 ≤ v) : ∃ n q, lenN v = n + 2 ∧ 1 ≤ n ∧ (q = 2 ∨ q = 3) ∧ v / 2 ^ n = q ∧ klsN v = 2 * n + q ∧ bitsC (2 * n + q) = n ∧ baseC (2 * n + q) = q * 2 ^ n ∧ q * 2 ^ n + v % 2 ^ n = v := by
  obtain ⟨h1, h2, h3⟩ := len_spec h
  obtain ⟨n, hn⟩ : ∃ n, lenN v = n + 2 := ⟨lenN v - 2, by omega⟩
  rw [hn, show n + 2 - 1 = n + 1 by omega] at h2
  rw [hn] at h3
  have p1 : 2 ^ (n + 1) = 2 * 2 ^ n := by rw [Nat.pow_succ, Nat.mul_comm]
  have p2 : 2 ^ (n + 2) = 4 * 2 ^ n := by rw [Nat.pow_succ, p1]; omega
  have hd := Nat.div_add_mod v (2 ^ n)
  have hm := Nat.mod_lt v (two_lt n)
  have hq : v / 2 ^ n = 2 ∨ v / 2 ^ n = 3 := by
    have a1 : 2 ≤ v / 2 ^ n := (Nat.le_div_iff_mul_le (two_lt n)).2 (by omega)
    have a2 : v / 2 ^ n < 4 := (Nat.div_lt_iff_lt_mul (two_lt n)).2 (by omega)
    omega
  refine ⟨n, v / 2 ^ n, hn, by omega, hq, rfl, ?_, ?_, ?_, ?_⟩
  · unfold klsN; rw [if_neg (by omega), hn]; rfl
  · unfold bitsC; rw [if_neg (by omega)]; omega
  · rw [baseC_form _ (by omega)]
    rcases hq with e | e <;> rw [e]
    · rw [show (2 + (2 * n + 2) % 2) = 2 by omega, show (2 * n + 2) / 2 - 1 = n by omega]
    · rw [show (2 + (2 * n + 3) % 2) = 3 by omega, show (2 * n + 3) / 2 - 1 = n by omega]
  · rw [Nat.mul_comm]; exact hd
theorem klsN_between (v : Nat) : baseC (klsN v) ≤ v ∧ v < baseC (klsN v + 1) ∧ (v < 32768 → klsN v < 30) := by
  rcases Nat.lt_or_ge v 4 with h | h
  · have e : klsN v = v := by unfold klsN; rw [if_pos h]
    rw [e, baseC_small v (by omega), baseC_small (v + 1) (by omega)]
    exact ⟨Nat.le_refl _, by omega, fun _ => by omega⟩
  · obtain ⟨n, q, hn, hn1, hq, hv, hc, hb, hbase, hsum⟩ := kls_spec h
    have hm := Nat.mod_lt v (two_lt n)
    rw [hc, baseC, hbase, hb]
    refine ⟨by omega, by omega, fun hlt => ?_⟩
    have h2 : 2 ^ (n + 1) < 2 ^ 15 := by
      have : q * 2 ^ n ≤ v := by omega
      rw [Nat.pow_succ]
      rcases hq with rfl | rfl <;> omega
    have := (Nat.pow_lt_pow_iff_right (by omega : 1 < 2)).1 h2
    omega
/-- A class's number is known by its place between the least ones. -/
theorem klsN_unique {v c : Nat} (h1 : baseC c ≤ v) (h2 : v < baseC (c + 1)) : klsN v = c := by
  obtain ⟨g1, g2, _⟩ := klsN_between v
  rcases Nat.lt_or_ge (klsN v) c with h | h
  · have := baseC_mono (show klsN v + 1 ≤ c by omega); omega
  · rcases Nat.lt_or_ge c (klsN v) with h' | h'
    · have := baseC_mono (show c + 1 ≤ klsN v by omega); omega
    · omega
theorem klsN_mono {v w : Nat} (h : v ≤ w) : klsN v ≤ klsN w := by
  obtain ⟨g1, _, _⟩ := klsN_between v
  obtain ⟨_, k2, _⟩ := klsN_between w
  rcases Nat.lt_or_ge (klsN w) (klsN v) with h' | h'
  · have := baseC_mono (show klsN w + 1 ≤ klsN v by omega); omega
  · exact h'
def klsOf (v : Nat) : Kls := ⟨klsN v, bitsC (klsN v), ((v - baseC (klsN v) : Nat) : Int)⟩
theorem klsOf_small {v : Nat} (h : v < 4) : klsOf v = ⟨v, 0, 0⟩ := by
  have e : klsN v = v := by unfold klsN; rw [if_pos h]
  unfold klsOf
  rw [e, baseC_small v (by omega)]
  unfold bitsC
  rw [if_pos h]; simp
theorem klsOf_big {v n q : Nat} (hc : klsN v = 2 * n + q) (hb : bitsC (2 * n + q) = n) (hbase : baseC (2 * n + q) = q * 2 ^ n) (hsum : q * 2 ^ n + v % 2 ^ n = v) : klsOf v = ⟨((2 * n + q : Nat) : Int), n, ((v % 2 ^ n : Nat) : Int)⟩ := by
  unfold klsOf
  rw [hc, hb, hbase, show v - q * 2 ^ n = v % 2 ^ n by omega]
def ofC (v : Int) : Kls × Bool := if v < 0 ∨ 32767 < v then (Kls.nil, false) else (klsOf v.toNat, true)
/-- The last class whose least number is not above v. -/
def lastC (v : Nat) : Nat → Nat
  | 0 => 0
  | k + 1 => if baseC k ≤ v then k else lastC v k
theorem lastC_eq {v c : Nat} (h1 : baseC c ≤ v) (h2 : v < baseC (c + 1)) : ∀ k, c < k → lastC v k = c
  | 0, h => by omega
  | k + 1, h => by
    unfold lastC
    rcases Nat.lt_or_ge c k with hk | hk
    · have := baseC_mono (show c + 1 ≤ k by omega)
      rw [if_neg (by omega)]
      exact lastC_eq h1 h2 k hk
    · obtain rfl : c = k := by omega
      rw [if_pos h1]
theorem lastC_kls {v : Nat} (h : v < 32768) : lastC v 30 = klsN v :=
  let ⟨g1, g2, g3⟩ := klsN_between v
  lastC_eq g1 g2 30 (g3 h)
/-- The number of a class. -/
def valC (c : Kls) : Option Nat :=
  if c.num < 0 ∨ 30 ≤ c.num then none
  else if c.bits ≠ bitsC c.num.toNat then none
  else if (2 : Int) ^ bitsC c.num.toNat ≤ c.ext then none
  else some (baseC c.num.toNat + c.ext.toNat)
theorem valC_some {c : Kls} {v : Nat} (h : valC c = some v) : 0 ≤ c.num ∧ c.num < 30 ∧ c.bits = bitsC c.num.toNat ∧ c.ext < (2 : Int) ^ bitsC c.num.toNat ∧ v = baseC c.num.toNat + c.ext.toNat := by
  unfold valC at h
  split at h
  · cases h
  · split at h
    · cases h
    · split at h
      · cases h
      · cases h
        rename_i a b d
        exact ⟨by omega, by omega, Decidable.not_not.1 b, by omega, rfl⟩
theorem valC_lt {c : Kls} {v : Nat} (h : valC c = some v) : v < 65536 := by
  obtain ⟨h1, h2, h3, h4, h5⟩ := valC_some h
  have hb : c.ext.toNat < 2 ^ bitsC c.num.toNat := by
    have : ((2 ^ bitsC c.num.toNat : Nat) : Int) = (2 : Int) ^ bitsC c.num.toNat := by rw [Int.natCast_pow]; rfl
    have := two_lt (bitsC c.num.toNat)
    omega
  have := baseC_mono (show c.num.toNat + 1 ≤ 30 by omega)
  rw [baseC, show baseC 30 = 65536 / 2 by decide] at this
  omega
theorem valC_of {v : Nat} (h : v < 32768) : valC (klsOf v) = some v := by
  obtain ⟨g1, g2, g3⟩ := klsN_between v
  have := g3 h
  have hp : ((2 ^ bitsC (klsN v) : Nat) : Int) = (2 : Int) ^ bitsC (klsN v) := by rw [Int.natCast_pow]; rfl
  rw [baseC] at g2
  unfold valC klsOf
  simp only [Int.toNat_natCast]
  rw [if_neg (by omega), if_neg (by simp), if_neg (by rw [← hp]; omega)]
  congr 1; omega
theorem klsOf_val {c : Kls} {v : Nat} (h0 : 0 ≤ c.ext) (h : valC c = some v) : klsOf v = c ∧ v < 32768 := by
  obtain ⟨h1, h2, h3, h4, h5⟩ := valC_some h
  have hp : ((2 ^ bitsC c.num.toNat : Nat) : Int) = (2 : Int) ^ bitsC c.num.toNat := by rw [Int.natCast_pow]; rfl
  have hlt : v < baseC (c.num.toNat + 1) := by rw [baseC]; omega
  have e : klsN v = c.num.toNat := klsN_unique (by omega) hlt
  refine ⟨?_, ?_⟩
  · unfold klsOf
    rw [e]
    cases c
    simp only at *
    congr 1
    · omega
    · exact h3.symm
    · omega
  · have := baseC_mono (show c.num.toNat + 1 ≤ 30 by omega)
    rw [show baseC 30 = 32768 by decide] at this
    omega
/-- A token: a byte, or a match. -/
structure Tok where
  byte : Int
  len : Int
  dist : Int
  deriving DecidableEq
def Tok.nil : Tok := ⟨0, 0, 0⟩
def Tok.right (t : Tok) : Prop := if t.len = 0 then t.dist = 0 else t.byte = 0 ∧ 3 ≤ t.len ∧ t.len ≤ 258 ∧ 1 ≤ t.dist ∧ t.dist ≤ 32768
instance (t : Tok) : Decidable t.right := by unfold Tok.right; infer_instance
/-- A token's symbols. -/
structure Sy where
  a : Kls
  b : Kls
  m : Bool
  deriving DecidableEq
def Sy.nil : Sy := ⟨Kls.nil, Kls.nil, false⟩
def splitY (t : Tok) : Sy :=
  if t.len = 0 then ⟨⟨t.byte, 0, 0⟩, Kls.nil, false⟩
  else ⟨⟨(klsOf (t.len - 3).toNat).num + 257, (klsOf (t.len - 3).toNat).bits, (klsOf (t.len - 3).toNat).ext⟩, klsOf (t.dist - 1).toNat, true⟩
def splitT (t : Tok) : Sy × Bool := if t.right then (splitY t, true) else (Sy.nil, false)
def matchT (r : Sy) : Tok × Bool :=
  match valC ⟨r.a.num - 257, r.a.bits, r.a.ext⟩, valC r.b with
  | some x, some y => if (Tok.mk 0 (x + 3) (y + 1)).right then (Tok.mk 0 (x + 3) (y + 1), true) else (Tok.nil, false)
  | _, _ => (Tok.nil, false)
def joinT (r : Sy) : Tok × Bool :=
  if r.m = true then (if 257 ≤ r.a.num ∧ r.a.num < 273 then matchT r else (Tok.nil, false))
  else if 0 ≤ r.a.num ∧ r.a.num < 256 ∧ r = ⟨⟨r.a.num, 0, 0⟩, Kls.nil, false⟩ then (⟨r.a.num, 0, 0⟩, true)
  else (Tok.nil, false)
theorem klsN_255 {v : Nat} (h : v < 256) : klsN v < 16 := by
  have := klsN_mono (show v ≤ 255 by omega)
  have e : klsN 255 = 15 := klsN_unique (by decide) (by decide)
  omega
/-- What is split is joined. -/
theorem join_split {t : Tok} (h : t.right) (hb : 0 ≤ t.byte ∧ t.byte < 256) : joinT (splitY t) = (t, true) ∧ 0 ≤ (splitY t).a.num ∧ (splitY t).a.num < 273 ∧ (splitY t).a.num ≠ 256 ∧ 0 ≤ (splitY t).b.num ∧ (splitY t).b.num < 30 := by
  have h' := h
  unfold Tok.right at h
  by_cases h0 : t.len = 0
  · rw [if_pos h0] at h
    have e : splitY t = ⟨⟨t.byte, 0, 0⟩, Kls.nil, false⟩ := by unfold splitY; rw [if_pos h0]
    rw [e]
    refine ⟨?_, by simp only; omega, by simp only; omega, by simp only; omega, by simp [Kls.nil], by simp [Kls.nil]⟩
    unfold joinT
    rw [if_neg (by simp), if_pos ⟨hb.1, hb.2, rfl⟩]
    cases t; simp only at *; subst h0 h; rfl
  · rw [if_neg h0] at h
    obtain ⟨h1, h2, h3, h4, h5⟩ := h
    have e : splitY t = ⟨⟨(klsOf (t.len - 3).toNat).num + 257, (klsOf (t.len - 3).toNat).bits, (klsOf (t.len - 3).toNat).ext⟩, klsOf (t.dist - 1).toNat, true⟩ := by unfold splitY; rw [if_neg h0]
    have c1 : (t.len - 3).toNat < 256 := by omega
    have c2 : (t.dist - 1).toNat < 32768 := by omega
    have k1 := klsN_255 c1
    have k2 := (klsN_between (t.dist - 1).toNat).2.2 c2
    have n1 : (klsOf (t.len - 3).toNat).num = klsN (t.len - 3).toNat := rfl
    have n2 : (klsOf (t.dist - 1).toNat).num = klsN (t.dist - 1).toNat := rfl
    rw [e]
    refine ⟨?_, by simp only; omega, by simp only; omega, by simp only; omega, by simp only; omega, by simp only; omega⟩
    unfold joinT
    rw [if_pos rfl, if_pos (by simp only; omega)]
    unfold matchT
    simp only [show (klsOf (t.len - 3).toNat).num + 257 - 257 = (klsOf (t.len - 3).toNat).num by omega]
    rw [show (Kls.mk (klsOf (t.len - 3).toNat).num (klsOf (t.len - 3).toNat).bits (klsOf (t.len - 3).toNat).ext) = klsOf (t.len - 3).toNat from rfl, valC_of (by omega), valC_of c2]
    have et : Tok.mk 0 (((t.len - 3).toNat : Int) + 3) (((t.dist - 1).toNat : Int) + 1) = t := by
      cases t; simp only at *; congr 1 <;> omega
    simp only [et]
    rw [if_pos h']
/-- What is joined is split as it was. -/
theorem split_join {r : Sy} {t : Tok} (ha : 0 ≤ r.a.ext) (hb : 0 ≤ r.b.ext) (h : joinT r = (t, true)) : t.right ∧ splitY t = r := by
  unfold joinT at h
  split at h
  · rename_i hm
    split at h
    · rename_i hr
      unfold matchT at h
      split at h
      · rename_i x y hx hy
        split at h
        · rename_i ht
          simp only [Prod.mk.injEq, and_true] at h
          subst h
          refine ⟨ht, ?_⟩
          obtain ⟨e1, l1⟩ := klsOf_val (c := ⟨r.a.num - 257, r.a.bits, r.a.ext⟩) ha hx
          obtain ⟨e2, l2⟩ := klsOf_val hb hy
          unfold splitY
          rw [if_neg (by simp only; omega)]
          simp only [show ((x : Int) + 3 - 3).toNat = x by omega, show ((y : Int) + 1 - 1).toNat = y by omega, e1, e2]
          rcases r with ⟨⟨_, _, _⟩, b, m⟩
          simp only at hm ⊢
          subst hm
          congr 2
          omega
        · simp at h
      · simp at h
    · simp at h
  · split at h
    · rename_i hm hr
      simp only [Prod.mk.injEq, and_true] at h
      subst h
      obtain ⟨h1, h2, h3⟩ := hr
      refine ⟨by unfold Tok.right; rw [if_pos rfl], ?_⟩
      unfold splitY
      rw [if_pos rfl]
      exact h3.symm
    · simp at h
theorem joinT_nil {r : Sy} (h : (joinT r).2 = false) : (joinT r).1 = Tok.nil := by
  unfold joinT at *
  split at h
  · rename_i hm
    split at h
    · rename_i hr
      rw [if_pos hm, if_pos hr]
      unfold matchT at *
      split at h
      · split at h
        · simp at h
        · rename_i a b c d; rw [if_neg d]
      · rfl
    · rename_i hr; rw [if_pos hm, if_neg hr]
  · split at h
    · simp at h
    · rename_i h1 h2; rw [if_neg h1, if_neg h2]
end Go.Bn
