/- Packed texts of a claim: what its theorem uses, joined. -/
import Derived.Orders
import Derived.OrdersIn
import Derived.RangeFuncLeaves
import Derived.RangeFuncRecord
import Derived.KernelRfl
import Derived.Tactics
import Derived.Below
section
namespace Go.Bn
def bitsN : Nat → Nat → List Bool
  | 0, _ => []
  | k + 1, x => (x % 2 == 1) :: bitsN k (x / 2)
def bitsB (l : List UInt8) : List Bool := l.flatMap fun b => bitsN 8 b.toNat
def wd (m : Nat) (k : Int) : Nat := (max 0 (min (m : Int) k)).toNat
theorem wd_le (m : Nat) (k : Int) : wd m k ≤ m := by unfold wd; omega
theorem wd_int (m : Nat) (k : Int) : ((wd m k : Nat) : Int) = max 0 (min (m : Int) k) := by unfold wd; omega
theorem bitsN_length : ∀ (k x : Nat), (bitsN k x).length = k
 | 0, _ => rfl
 | k + 1, x => by simp [bitsN, bitsN_length k]
theorem bitsB_length (l : List UInt8) : (bitsB l).length = 8 * l.length := by
 induction l with
 | nil => rfl
 | cons b l ih =>
  simp only [bitsB, List.flatMap_cons, List.length_append, bitsN_length, List.length_cons] at ih ⊢
  omega
theorem bitsB_append (l m : List UInt8) : bitsB (l ++ m) = bitsB l ++ bitsB m := by simp [bitsB]
theorem bitsN_add : ∀ (a b x : Nat), bitsN (a + b) x = bitsN a x ++ bitsN b (x / 2 ^ a)
 | 0, b, x => by simp [bitsN]
 | a + 1, b, x => by
  rw [show a + 1 + b = (a + b) + 1 by omega]
  simp only [bitsN, List.cons_append]
  rw [bitsN_add a b (x / 2), Nat.div_div_eq_div_mul, show 2 * 2 ^ a = 2 ^ (a + 1) by rw [Nat.pow_succ]; omega]
theorem bitsN_congr : ∀ (k x y : Nat), x % 2 ^ k = y % 2 ^ k → bitsN k x = bitsN k y
 | 0, _, _, _ => rfl
 | k + 1, x, y, h => by
  have h1 : x % 2 = y % 2 := by
   have := congrArg (· % 2) h
   simpa [Nat.pow_succ, Nat.mod_mul_left_mod] using this
  have h2 : x / 2 % 2 ^ k = y / 2 % 2 ^ k := by
   have e : ∀ z, z / 2 % 2 ^ k = z % 2 ^ (k + 1) / 2 := by
    intro z
    rw [Nat.pow_succ, Nat.mul_comm, Nat.mod_mul_right_div_self]
   rw [e, e, h]
  simp only [bitsN, h1, bitsN_congr k _ _ h2]
theorem bitsN_mod (k x : Nat) : bitsN k (x % 2 ^ k) = bitsN k x := bitsN_congr k _ _ (Nat.mod_mod _ _)
theorem bitsN_put {m k x n : Nat} (hx : x < 2 ^ m) : bitsN (m + k) (x + n % 2 ^ k * 2 ^ m) = bitsN m x ++ bitsN k n := by
 rw [bitsN_add]
 congr 1
 ·exact bitsN_congr m _ _ (by rw [Nat.add_mul_mod_self_right])
 ·rw [Nat.add_mul_div_right _ _ (Nat.two_pow_pos m), Nat.div_eq_of_lt hx, Nat.zero_add, bitsN_mod]
theorem or_put {m x y : Nat} (hx : x < 2 ^ m) : x ||| (y * 2 ^ m) = x + y * 2 ^ m := by
 rw [Nat.mul_comm y, Nat.or_comm, ← Nat.two_pow_add_eq_or_of_lt hx, Nat.add_comm]
theorem put_lt {m k x n : Nat} (hx : x < 2 ^ m) : x + n % 2 ^ k * 2 ^ m < 2 ^ (m + k) := by
 have h1 : n % 2 ^ k < 2 ^ k := Nat.mod_lt _ (Nat.two_pow_pos k)
 have h2 : (n % 2 ^ k + 1) * 2 ^ m ≤ 2 ^ k * 2 ^ m := Nat.mul_le_mul_right _ h1
 rw [Nat.add_mul, Nat.one_mul] at h2
 rw [Nat.pow_add, Nat.mul_comm (2 ^ m)]
 omega
theorem bitsB_snoc (l : List UInt8) (x m : Nat) : bitsB (l ++ [UInt8.ofNat x]) ++ bitsN m (x / 256) = bitsB l ++ bitsN (8 + m) x := by
 rw [bitsB_append, bitsN_add 8 m x, List.append_assoc]
 congr 1
 simp only [bitsB, List.flatMap_cons, List.flatMap_nil, List.append_nil]
 congr 1
 exact bitsN_congr 8 _ _ (by simp)
def valB : List Bool → Nat
  | [] => 0
  | b :: r => b.toNat + 2 * valB r
theorem valB_lt : ∀ l : List Bool, valB l < 2 ^ l.length
 | [] => by simp [valB]
 | b :: r => by
  have := valB_lt r
  have hb := Bool.toNat_le b
  simp only [valB, List.length_cons, Nat.pow_succ]
  omega
theorem mod2_toNat (x : Nat) : (x % 2 == 1).toNat = x % 2 := by
 rcases Nat.mod_two_eq_zero_or_one x with h | h <;> rw [h] <;> rfl
theorem valB_bitsN : ∀ (k x : Nat), valB (bitsN k x) = x % 2 ^ k
 | 0, x => by simp [bitsN, valB, Nat.mod_one]
 | k + 1, x => by
  rw [bitsN, valB, valB_bitsN k, mod2_toNat, Nat.pow_succ, Nat.mul_comm (2 ^ k), Nat.mod_mul]
theorem bitsN_valB : ∀ (l : List Bool), bitsN l.length (valB l) = l
 | [] => rfl
 | b :: r => by
  have h1 : ((b.toNat + 2 * valB r) % 2 == 1) = b := by cases b <;> simp [Bool.toNat]
  have h2 : (b.toNat + 2 * valB r) / 2 = valB r := by have := Bool.toNat_le b; omega
  rw [List.length_cons, bitsN, valB, h1, h2, bitsN_valB r]
theorem valB_append : ∀ (l m : List Bool), valB (l ++ m) = valB l + 2 ^ l.length * valB m
 | [], m => by simp [valB]
 | b :: r, m => by
  simp only [List.cons_append, valB, valB_append r m, List.length_cons, Nat.pow_succ]
  rw [Nat.mul_add, ← Nat.mul_assoc, Nat.mul_comm 2 (2 ^ r.length)]; omega
theorem valB_drop (l : List Bool) (j : Nat) : valB (l.drop j) = valB l / 2 ^ j := by
 induction j generalizing l with
 | zero => simp
 | succ j ih =>
  cases l with
  | nil => simp [valB]
  | cons b r =>
   rw [List.drop_succ_cons, ih, valB, Nat.pow_succ, Nat.mul_comm (2 ^ j) 2, ← Nat.div_div_eq_div_mul]
   congr 1
   have := Bool.toNat_le b
   omega
theorem valB_take (l : List Bool) (k : Nat) : valB (l.take k) = valB l % 2 ^ k := by
 induction k generalizing l with
 | zero => simp [valB, Nat.mod_one]
 | succ k ih =>
  cases l with
  | nil => simp [valB]
  | cons b r =>
   rw [List.take_succ_cons, valB, ih, valB, Nat.pow_succ, Nat.mul_comm (2 ^ k), Nat.mod_mul]
   have := Bool.toNat_le b
   rw [show (b.toNat + 2 * valB r) % 2 = b.toNat by omega, show (b.toNat + 2 * valB r) / 2 = valB r by omega]
theorem bitsN_zero (k : Nat) : bitsN k 0 = List.replicate k false := by
 induction k with
 | zero => rfl
 | succ k ih => rw [bitsN, List.replicate_succ, Nat.zero_div, ih]; rfl
def pack (bs : List Bool) : List UInt8 := (List.range ((bs.length + 7) / 8)).map fun i => UInt8.ofNat (valB ((bs.drop (8 * i)).take 8))
theorem pack_length (bs : List Bool) : (pack bs).length = (bs.length + 7) / 8 := by simp [pack]
theorem pack_step (b : UInt8) (r : List Bool) : pack (bitsN 8 b.toNat ++ r) = b :: pack r := by
 unfold pack
 rw [List.length_append, bitsN_length, show (8 + r.length + 7) / 8 = (r.length + 7) / 8 + 1 by omega, List.range_succ_eq_map, List.map_cons, List.map_map]
 refine List.cons_eq_cons.2 ⟨?_, ?_⟩
 ·rw [Nat.mul_zero, List.drop_zero, List.take_append_of_le_length (by rw [bitsN_length]; omega), List.take_of_length_le (by rw [bitsN_length]; omega), valB_bitsN]
  simp
 ·apply List.map_congr_left
  intro i _
  simp only [Function.comp]
  rw [show 8 * (i + 1) = 8 + 8 * i by omega, ← List.drop_drop, List.drop_append_of_le_length (by rw [bitsN_length]; omega), show List.drop 8 (bitsN 8 b.toNat) = [] from List.drop_of_length_le (by rw [bitsN_length]; omega), List.nil_append]
theorem pack_bits (l : List UInt8) (r : List Bool) : pack (bitsB l ++ r) = l ++ pack r := by
 induction l with
 | nil => rfl
 | cons b l ih =>
  have : bitsB (b :: l) = bitsN 8 b.toNat ++ bitsB l := by simp [bitsB]
  rw [this, List.append_assoc, pack_step, ih]; rfl
theorem pack_rest (m x : Nat) (hm : m < 8) (hx : x < 2 ^ m) : pack (bitsN m x) = if m = 0 then [] else [UInt8.ofNat x] := by
 unfold pack
 rw [bitsN_length]
 by_cases h : m = 0
 ·subst h; simp
 ·rw [if_neg h, show (m + 7) / 8 = 1 by omega]
  have e : List.range 1 = [0] := rfl
  rw [e, List.map_singleton, Nat.mul_zero, List.drop_zero, List.take_of_length_le (by rw [bitsN_length]; omega), valB_bitsN, Nat.mod_eq_of_lt hx]
def b01 (bs : List Bool) : List UInt8 := bs.map fun b => if b then 1 else 0
theorem b01_append (a b : List Bool) : b01 (a ++ b) = b01 a ++ b01 b := by simp [b01]
theorem b01_length (a : List Bool) : (b01 a).length = a.length := by simp [b01]
theorem b01_get (a : List Bool) (i : Nat) (h : i < a.length) : (b01 a)[i]? = some (UInt8.ofNat (a[i]).toNat) := by
 simp only [b01, List.getElem?_map, List.getElem?_eq_getElem h, Option.map_some]
 cases a[i] <;> rfl
theorem b01_mod (x : Nat) : UInt8.ofNat (x % 2) = if (x % 2 == 1) = true then 1 else 0 := by
 rcases Nat.mod_two_eq_zero_or_one x with h | h <;> rw [h] <;> rfl
theorem bitsN_snoc (k x : Nat) : bitsN (k + 1) x = bitsN k x ++ [x / 2 ^ k % 2 == 1] := by
 rw [bitsN_add]; rfl
end Go.Bn
end

section
set_option linter.unusedVariables false
set_option linter.unusedSimpArgs false
namespace Go.Bn
def likeM : List UInt8 → List UInt8 → Nat
  | x :: xs, y :: ys => if x = y then likeM xs ys + 1 else 0
  | _, _ => 0
theorem likeM_le : ∀ (x y : List UInt8), likeM x y ≤ x.length ∧ likeM x y ≤ y.length
 | [], _ => by simp [likeM]
 | _ :: _, [] => by simp [likeM]
 | x :: xs, y :: ys => by
  have := likeM_le xs ys
  rw [likeM]
  split
  ·simp only [List.length_cons]; omega
  ·simp
def lenM (b : List UInt8) (a d : Nat) : Nat := if d = 0 ∨ 32768 < d ∨ a < d then 0 else min 258 (likeM (b.drop a) (b.drop (a - d)))
theorem lenM_le (b : List UInt8) (a d : Nat) : lenM b a d ≤ 258 := by unfold lenM; split <;> omega
theorem lenM_fit (b : List UInt8) (a d : Nat) : lenM b a d ≤ b.length - a := by
 unfold lenM
 split
 ·omega
 ·have := (likeM_le (b.drop a) (b.drop (a - d))).1
  rw [List.length_drop] at this
  omega
theorem lenM_in {b : List UInt8} {a d : Nat} (h : lenM b a d ≠ 0) : 1 ≤ d ∧ d ≤ 32768 ∧ d ≤ a ∧ a < b.length := by
 have := lenM_fit b a d
 unfold lenM at h
 split at h
 ·exact absurd rfl h
 ·have h2 := lenM_fit b a d
  unfold lenM at h2
  rw [if_neg (by assumption)] at h2
  omega
theorem likeM_at {b : List UInt8} {i j : Nat} (hi : i < b.length) (hj : j < b.length) : likeM (b.drop i) (b.drop j) = if b[i] = b[j] then likeM (b.drop (i + 1)) (b.drop (j + 1)) + 1 else 0 := by
 rw [List.drop_eq_getElem_cons hi, List.drop_eq_getElem_cons hj, likeM]
theorem likeM_out {b y : List UInt8} {i : Nat} (hi : b.length ≤ i) : likeM (b.drop i) y = 0 := by
 rw [List.drop_of_length_le hi]; cases y <;> rfl
theorem likeM_get : ∀ (x y : List UInt8) (i : Nat), i < likeM x y → x[i]? = y[i]? ∧ i < x.length ∧ i < y.length
 | [], _, i, h => by simp [likeM] at h
 | _ :: _, [], i, h => by simp [likeM] at h
 | x :: xs, y :: ys, i, h => by
  rw [likeM] at h
  split at h
  ·rename_i e
   cases i with
   | zero => simp [e]
   | succ i =>
    obtain ⟨h1, h2, h3⟩ := likeM_get xs ys i (by omega)
    exact ⟨by simpa using h1, by simp; omega, by simp; omega⟩
  ·omega
theorem lenM_get {b : List UInt8} {a d i : Nat} (h : i < lenM b a d) : b[a + i]? = b[a + i - d]? ∧ a + i < b.length ∧ 1 ≤ d ∧ d ≤ a := by
 have hn := lenM_in (b := b) (a := a) (d := d) (by omega)
 unfold lenM at h
 rw [if_neg (by omega)] at h
 obtain ⟨h1, h2, _⟩ := likeM_get _ _ i (Nat.lt_of_lt_of_le h (Nat.min_le_right _ _))
 rw [List.getElem?_drop, List.getElem?_drop] at h1
 rw [List.length_drop] at h2
 exact ⟨by rw [h1, show a - d + i = a + i - d by omega], by omega, by omega, by omega⟩
def keyM (b : List UInt8) (i : Nat) : Nat := (b.getD i 0).toNat + 256 * (b.getD (i + 1) 0).toNat + 65536 * (b.getD (i + 2) 0).toNat
theorem getD_at {b : List UInt8} {i : Nat} (h : i < b.length) : b.getD i 0 = b[i] := by simp [List.getD, h]
theorem keyM_len {b : List UInt8} {a d : Nat} (ha : a + 3 ≤ b.length) (h1 : 1 ≤ d) (h2 : d ≤ a) (h3 : d ≤ 32768) : keyM b (a - d) = keyM b a ↔ 3 ≤ lenM b a d := by
 unfold lenM
 rw [if_neg (by omega), likeM_at (i := a) (j := a - d) (by omega) (by omega), likeM_at (i := a + 1) (j := a - d + 1) (by omega) (by omega), likeM_at (i := a + 1 + 1) (j := a - d + 1 + 1) (by omega) (by omega)]
 unfold keyM
 rw [getD_at (show a - d < b.length by omega), getD_at (show a < b.length by omega), getD_at (show a - d + 1 < b.length by omega), getD_at (show a + 1 < b.length by omega), getD_at (show a - d + 2 < b.length by omega), getD_at (show a + 2 < b.length by omega)]
 have e1 : ∀ x y : UInt8, x.toNat = y.toNat ↔ x = y := fun x y => ⟨fun h => UInt8.toNat_inj.1 h, fun h => h ▸ rfl⟩
 have l1 := (b[a - d]'(by omega)).toNat_lt
 have l2 := (b[a - d + 1]'(by omega)).toNat_lt
 have l3 := (b[a - d + 2]'(by omega)).toNat_lt
 have l4 := (b[a]'(by omega)).toNat_lt
 have l5 := (b[a + 1]'(by omega)).toNat_lt
 have l6 := (b[a + 2]'(by omega)).toNat_lt
 have q1 := e1 (b[a]'(by omega)) (b[a - d]'(by omega))
 have q2 := e1 (b[a + 1]'(by omega)) (b[a - d + 1]'(by omega))
 have q3 := e1 (b[a + 1 + 1]'(by omega)) (b[a - d + 1 + 1]'(by omega))
 simp only [show a + 1 + 1 = a + 2 by omega, show a - d + 1 + 1 = a - d + 2 by omega] at *
 constructor
 ·intro h
  rw [if_pos (q1.1 (by omega)), if_pos (q2.1 (by omega)), if_pos (q3.1 (by omega))]
  omega
 ·intro h
  split at h
  ·rename_i g1
   split at h
   ·rename_i g2
    split at h
    ·rename_i g3
     rw [g1, g2, g3]
    ·omega
   ·omega
  ·omega
def lastB (p : Nat → Bool) : Nat → Option Nat
  | 0 => none
  | n + 1 => if p n = true then some n else lastB p n
def downs (p : Nat → Bool) : Nat → List Nat
  | 0 => []
  | n + 1 => if p n = true then n :: downs p n else downs p n
theorem downs_none {p : Nat → Bool} : ∀ {n : Nat}, lastB p n = none → downs p n = []
 | 0, _ => rfl
 | n + 1, h => by
  rw [lastB] at h
  split at h
  ·cases h
  ·rename_i hp; rw [downs, if_neg hp]; exact downs_none h
theorem downs_some {p : Nat → Bool} {q : Nat} : ∀ {n : Nat}, lastB p n = some q → downs p n = q :: downs p q ∧ q < n ∧ p q = true
 | 0, h => by cases h
 | n + 1, h => by
  rw [lastB] at h
  split at h
  ·rename_i hp; cases h; rw [downs, if_pos hp]; exact ⟨rfl, by omega, hp⟩
  ·rename_i hp
   obtain ⟨h1, h2, h3⟩ := downs_some h
   rw [downs, if_neg hp]; exact ⟨h1, by omega, h3⟩
theorem downs_lt {p : Nat → Bool} : ∀ {n q : Nat}, q ∈ downs p n → q < n ∧ p q = true
 | 0, q, h => by simp [downs] at h
 | n + 1, q, h => by
  rw [downs] at h
  split at h
  ·rename_i hp
   rcases List.mem_cons.1 h with rfl | h
   ·exact ⟨by omega, hp⟩
   ·have := downs_lt h; exact ⟨by omega, this.2⟩
  ·have := downs_lt h; exact ⟨by omega, this.2⟩
def lastM (b : List UInt8) (u k : Nat) : Option Nat := lastB (fun j => keyM b j == k) u
def prevM (b : List UInt8) (i : Nat) : Option Nat := lastM b i (keyM b i)
theorem lastM_succ (b : List UInt8) (u k : Nat) : lastM b (u + 1) k = if keyM b u = k then some u else lastM b u k := by
 unfold lastM
 rw [lastB]
 by_cases h : keyM b u = k
 ·rw [if_pos h, if_pos (by simpa using h)]
 ·rw [if_neg h, if_neg (by simpa using h)]
theorem lastM_lt {b : List UInt8} {u k q : Nat} (h : lastM b u k = some q) : q < u ∧ keyM b q = k := by
 have := downs_some h
 exact ⟨this.2.1, by simpa using this.2.2⟩
def optI : Option Nat → Int
  | none => -1
  | some q => q
def walkM (b : List UInt8) (a : Nat) : Option Nat → List Nat
  | none => []
  | some q => q :: downs (fun j => keyM b j == keyM b a) q
theorem walk_start (b : List UInt8) (a : Nat) : walkM b a (prevM b a) = downs (fun j => keyM b j == keyM b a) a := by
 cases h : prevM b a with
 | none => exact (downs_none h).symm
 | some q => exact (downs_some h).1.symm
theorem walk_next {b : List UInt8} {a q : Nat} (hq : keyM b q = keyM b a) : walkM b a (some q) = q :: walkM b a (prevM b q) := by
 rw [walkM]
 have : prevM b q = lastB (fun j => keyM b j == keyM b a) q := by unfold prevM lastM; rw [hq]
 congr 1
 cases h : prevM b q with
 | none => rw [this] at h; exact downs_none h
 | some r => rw [this] at h; exact (downs_some h).1
def candN (b : List UInt8) (a : Nat) : Nat → List Nat
  | 0 => []
  | n + 1 => if a - n ≤ 32768 then (if 3 ≤ lenM b a (a - n) then (a - n) :: candN b a n else candN b a n) else []
def cands (b : List UInt8) (a : Nat) : List Nat := candN b a a
def tellM (a : Nat) (l : List Nat) : List Nat := (l.map (a - ·)).takeWhile (fun d => decide (d ≤ 32768))
theorem tellM_none (a : Nat) : ∀ (l : List Nat), (∀ j ∈ l, 32768 < a - j) → tellM a l = []
 | [], _ => rfl
 | j :: l, h => by
  have := h j List.mem_cons_self
  unfold tellM
  rw [List.map_cons, List.takeWhile_cons, if_neg (by simp only [decide_eq_true_eq]; omega)]
theorem tellM_cons {a j : Nat} {l : List Nat} (h : a - j ≤ 32768) : tellM a (j :: l) = (a - j) :: tellM a l := by
 unfold tellM
 rw [List.map_cons, List.takeWhile_cons, if_pos (by simpa using h)]
theorem tellM_stop {a j : Nat} {l : List Nat} (h : ¬ a - j ≤ 32768) : tellM a (j :: l) = [] := by
 unfold tellM
 rw [List.map_cons, List.takeWhile_cons, if_neg (by simpa using h)]
theorem cand_tell {b : List UInt8} {a : Nat} (ha : a + 3 ≤ b.length) : ∀ n, n ≤ a → candN b a n = tellM a (downs (fun j => keyM b j == keyM b a) n)
 | 0, _ => rfl
 | n + 1, h => by
  have ih := cand_tell ha n (by omega)
  rw [candN, downs]
  by_cases hd : a - n ≤ 32768
  ·rw [if_pos hd]
   have hk := keyM_len ha (d := a - n) (by omega) (by omega) hd
   rw [show a - (a - n) = n by omega] at hk
   by_cases h3 : 3 ≤ lenM b a (a - n)
   ·rw [if_pos h3, if_pos (by simpa using hk.2 h3), tellM_cons hd, ih]
   ·rw [if_neg h3, if_neg (by simpa using fun e => h3 (hk.1 e)), ih]
  ·rw [if_neg hd]
   refine (tellM_none a _ fun j hj => ?_).symm
   split at hj
   ·rcases List.mem_cons.1 hj with rfl | hj
    ·omega
    ·have := (downs_lt hj).1; omega
   ·have := (downs_lt hj).1; omega
theorem cands_tell {b : List UInt8} {a : Nat} (ha : a + 3 ≤ b.length) : cands b a = tellM a (walkM b a (prevM b a)) := by
 rw [walk_start]; exact cand_tell ha a (Nat.le_refl _)
theorem candN_short {b : List UInt8} {a : Nat} (ha : ¬ a + 3 ≤ b.length) : ∀ n, candN b a n = []
 | 0 => rfl
 | n + 1 => by
  have := lenM_fit b a (a - n)
  rw [candN, candN_short ha n]
  split
  ·rename_i hd
   rw [if_neg (by omega)]
  ·rfl
theorem candN_mem {b : List UInt8} {a d : Nat} : ∀ {n}, d ∈ candN b a n → 3 ≤ lenM b a d
 | 0, h => by simp [candN] at h
 | n + 1, h => by
  rw [candN] at h
  split at h
  ·split at h
   ·rcases List.mem_cons.1 h with rfl | h
    ·assumption
    ·exact candN_mem h
   ·exact candN_mem h
  ·simp at h
def pickM (f : Nat → Nat) : Nat → List Nat → Nat × Nat → Nat × Nat
  | 0, _, s => s
  | _ + 1, [], s => s
  | k + 1, d :: ds, s => pickM f k ds (if s.1 < f d then (f d, d) else s)
theorem pickM_nil (f : Nat → Nat) (k : Nat) (s : Nat × Nat) : pickM f k [] s = s := by cases k <;> rfl
theorem pickM_full {f : Nat → Nat} {M : Nat} (hf : ∀ d, f d ≤ M) : ∀ (k : Nat) (l : List Nat) (s : Nat × Nat), s.1 = M → pickM f k l s = s
 | 0, _, _, _ => rfl
 | _ + 1, [], _, _ => rfl
 | k + 1, d :: ds, s, h => by
  have := hf d
  rw [pickM, if_neg (by omega)]
  exact pickM_full hf k ds s h
def bestM (b : List UInt8) (a depth : Nat) : Nat × Nat := pickM (lenM b a) depth (cands b a) (0, 0)
theorem pickM_of {f : Nat → Nat} {G : Nat × Nat → Prop} : ∀ (k : Nat) (l : List Nat) (s : Nat × Nat), (∀ d ∈ l, G (f d, d)) → G s → G (pickM f k l s)
 | 0, _, _, _, h => h
 | _ + 1, [], _, _, h => h
 | k + 1, d :: ds, s, hG, h => by
  rw [pickM]
  refine pickM_of k ds _ (fun x hx => hG x (List.mem_cons_of_mem _ hx)) ?_
  split
  ·exact hG d List.mem_cons_self
  ·exact h
theorem bestM_ok (b : List UInt8) (a depth : Nat) : bestM b a depth = (0, 0) ∨ (3 ≤ (bestM b a depth).1 ∧ (bestM b a depth).1 = lenM b a (bestM b a depth).2) :=
 pickM_of (G := fun s => s = (0, 0) ∨ (3 ≤ s.1 ∧ s.1 = lenM b a s.2)) depth _ _ (fun d hd => .inr ⟨candN_mem hd, rfl⟩) (.inl rfl)
end Go.Bn
end

section
namespace Go.Bn
open Go
abbrev Heap := Array Obj
abbrev Env := List (Nat × Value)
def Env.get : Env → Nat → Option Value
  | [], _ => none
  | (i, v) :: r, j => match Nat.beq i j with | true => some v | false => Env.get r j
def Env.putD : Env → Option Nat → Value → Env
  | E, some d, v => (d, v) :: E
  | E, none, _ => E
def ev (E : Env) : Operand → Option Value
  | .tmp t => E.get t
  | .const v => some v
  | .global g => some (.pointer (some ⟨g, 0, none⟩))
  | .func f => some (.func (.func f) #[] #[])
def evs (E : Env) : List Operand → Option (List Value)
  | [] => some []
  | x :: r => match ev E x with
    | some v => match evs E r with
      | some vs => some (v :: vs)
      | none => none
    | none => none
def fits (n : Nat) : Option Nat → Bool
  | some d => Nat.blt d n
  | none => true
structure OK (n : Nat) (E : Env) (a : Act) : Prop where
  size : a.tmps.size = n
  get : ∀ i v, E.get i = some v → a.tmps[i]? = some v
theorem OK.eval {n : Nat} {E : Env} {a : Act} (h : OK n E a) {x : Operand} {v : Value} (hx : ev E x = some v) : a.eval x = v := by
 cases x with
 | tmp t => simp [Act.eval, h.get t v hx]
 | const u => simpa [ev, Act.eval] using hx
 | global g => simpa [ev, Act.eval] using hx
 | func g => simpa [ev, Act.eval] using hx
theorem OK.evals {n : Nat} {E : Env} {a : Act} (h : OK n E a) : ∀ {l : List Operand} {vs : List Value}, evs E l = some vs → l.map a.eval = vs
 | [], vs, hx => by simpa [evs] using hx
 | x :: r, vs, hx => by
  simp only [evs] at hx
  split at hx
  ·rename_i v hv
   split at hx
   ·rename_i us hu
    cases hx
    rw [List.map_cons, h.eval hv, h.evals hu]
   ·cases hx
  ·cases hx
theorem Env.get_cons (i : Nat) (v : Value) (E : Env) (j : Nat) : Env.get ((i, v) :: E) j = if i = j then some v else Env.get E j := by
 simp only [Env.get]
 cases h : Nat.beq i j with
 | true => simp [Nat.eq_of_beq_eq_true h]
 | false => simp [Nat.ne_of_beq_eq_false h]
theorem OK.put {n : Nat} {E : Env} {a : Act} (h : OK n E a) {d : Option Nat} (v : Value) (hd : fits n d = true) : OK n (E.putD d v) (a.put d v) := by
 cases d with
 | none => exact h
 | some d =>
  have hd' : d < a.tmps.size := by rw [h.size]; simpa [fits, Nat.blt_eq] using hd
  refine ⟨by simp [Act.put, h.size], fun i u hu => ?_⟩
  simp only [Env.putD, Env.get_cons] at hu
  by_cases hi : d = i
  ·subst hi
   simp at hu
   subst hu
   simp [Act.put, hd']
  ·rw [if_neg hi] at hu
   simp [Act.put, Array.getElem?_setIfInBounds_ne hi, h.get i u hu]
def Sub (E' E : Env) : Prop := ∀ i v, E'.get i = some v → E.get i = some v
theorem Sub.nil (E : Env) : Sub [] E := fun i v h => by simp [Env.get] at h
theorem Sub.cons {E E' : Env} {i : Nat} {v : Value} (h : E.get i = some v) (hs : Sub E' E) : Sub ((i, v) :: E') E := fun j u hu => by
 rw [Env.get_cons] at hu
 by_cases hij : i = j
 ·subst hij; simp at hu; subst hu; exact h
 ·rw [if_neg hij] at hu; exact hs j u hu
theorem Sub.refl (E : Env) : Sub E E := fun _ _ h => h
theorem OK.sub {n : Nat} {E E' : Env} {a : Act} (h : OK n E a) (hs : Sub E' E) : OK n E' a := ⟨h.size, fun i v hv => h.get i v (hs i v hv)⟩
structure Inv (w w' : World) : Prop where
  os : w'.os = w.os
  tape : w'.tape = w.tape
  output : w'.output = w.output
theorem Inv.refl (w : World) : Inv w w := ⟨rfl, rfl, rfl⟩
theorem Inv.trans {a b c : World} (h : Inv a b) (k : Inv b c) : Inv a c := ⟨k.os.trans h.os, k.tape.trans h.tape, k.output.trans h.output⟩
structure Low (B : Nat) (h h' : Heap) : Prop where
  size : h.size ≤ h'.size
  blk : ∀ k, k < B → h'[k]? = h[k]?
theorem Low.refl (B : Nat) (h : Heap) : Low B h h := ⟨Nat.le_refl _, fun _ _ => rfl⟩
theorem Low.trans {B : Nat} {a b c : Heap} (h : Low B a b) (k : Low B b c) : Low B a c :=
 ⟨Nat.le_trans h.size k.size, fun i hi => (k.blk i hi).trans (h.blk i hi)⟩
theorem Low.mono {B B' : Nat} {a b : Heap} (h : Low B a b) (hB : B' ≤ B) : Low B' a b := ⟨h.size, fun k hk => h.blk k (Nat.lt_of_lt_of_le hk hB)⟩
abbrev Ext (h h' : Heap) : Prop := Low h.size h h'
theorem Ext.refl (h : Heap) : Ext h h := Low.refl _ _
theorem Ext.trans {a b c : Heap} (h : Ext a b) (k : Ext b c) : Ext a c := Low.trans h (k.mono h.size)
theorem Low.then_ext {B : Nat} {a b c : Heap} (h : Low B a b) (hB : B ≤ a.size) (k : Ext b c) : Low B a c := h.trans (k.mono (Nat.le_trans hB h.size))
theorem Low.below {w w' : World} {B : Nat} (hi : Inv w w') (h : Low B w.heap w'.heap) : RowKit.Below B w w' := ⟨hi.os, hi.tape, hi.output, h.size, h.blk⟩
def Ret (P : Program) (f : FuncId) (args : List Value) (hp : Heap) (Φ : Value → Heap → Prop) : Prop :=
  ∀ w : World, w.heap = hp → Calls P f args.toArray w (fun e w' => ∃ v, e = .returned v ∧ Inv w w' ∧ Φ v w'.heap)
theorem Ret.mono {P : Program} {f : FuncId} {args : List Value} {hp : Heap} {Φ Ψ : Value → Heap → Prop} (h : Ret P f args hp Φ) (hi : ∀ v hp', Φ v hp' → Ψ v hp') : Ret P f args hp Ψ :=
 fun w hw => (h w hw).mono fun _ _ ⟨v, he, hI, hf⟩ => ⟨v, he, hI, hi _ _ hf⟩
inductive SItem where
  | code (c : Code)
  | blk (id : Nat)
  | inv (J : Act → World → Prop)
theorem put_defers (a : Act) (d : Option Nat) (v : Value) : (a.put d v).defers = a.defers := by cases d <;> rfl
def wdF (r : Option Nat) : Fence := { Fence.wide with round := r }
theorem wdF_none : wdF none = Fence.wide := rfl
structure Cx where
  P : Program
  fn : Func
  Φ : Value → Heap → Prop
  w0 : World
  r : Option Nat
  D : List Deferred
  B : Exit → Act → World → Prop
  /-- May a region draw its order? -/
  pd : Bool := true
def Cx.R (c : Cx) (e : Ending) (w' : World) : Prop := ∃ v, e = .returned v ∧ Inv c.w0 w' ∧ c.Φ v w'.heap
@[reducible] def Cx.of (P : Program) (fn : Func) (Φ : Value → Heap → Prop) (w0 : World) : Cx :=
  ⟨P, fn, Φ, w0, none, [], bodyPostM Fence.wide 0 P fn fun e w' => ∃ v, e = .returned v ∧ Inv w0 w' ∧ Φ v w'.heap, true⟩
def SQ (c : Cx) : List SItem → Exit → Act → World → Prop
  | [], e, a, w => c.B e a w
  | .code x :: k, e, a, w => match e with
    | .normal => x.wpIn (wdF c.r) 0 c.P (SQ c k) a w
    | e => SQ c k e a w
  | .blk id :: k, e, a, w => match e with
    | .normal => SQ c k .normal a w
    | .exit j => if j = id then SQ c k .normal a w else SQ c k (.exit j) a w
    | e => SQ c k e a w
  | .inv J :: k, e, a, w => match e with
    | .normal => J a w
    | e => SQ c k e a w
def X (c : Cx) (k : List SItem) (E : Env) (hp : Heap) : Prop :=
  ∀ a w, (OK c.fn.ntmps E a ∧ a.defers = c.D) → Inv c.w0 w → w.heap = hp → SQ c k .normal a w
section
variable {c : Cx} {k : List SItem} {E : Env} {hp : Heap}
theorem X_seq {x y : Code} (h : X c (.code x :: .code y :: k) E hp) : X c (.code (.seq x y) :: k) E hp := by
 intro a w ho hi hw
 have := h a w ho hi hw
 show (Code.seq x y).wpIn (wdF c.r) 0 c.P (SQ c k) a w
 refine wpIn_seq (wpIn_mono this ?_)
 intro e a w he
 cases e <;> exact he
theorem X_skip (h : X c k E hp) : X c (.code .skip :: k) E hp := fun a w ho hi hw => wpIn_skip (h a w ho hi hw)
theorem X_label {l : Nat} (h : X c k E hp) : X c (.code (.label l) :: k) E hp := fun a w ho hi hw => wpIn_label (h a w ho hi hw)
theorem X_block {id : Nat} {x : Code} (h : X c (.code x :: .blk id :: k) E hp) : X c (.code (.block id x) :: k) E hp := by
 intro a w ho hi hw
 have := h a w ho hi hw
 show (Code.block id x).wpIn (wdF c.r) 0 c.P (SQ c k) a w
 refine wpIn_block (wpIn_mono this ?_)
 intro e a w he
 cases e <;> exact he
theorem X_blk {id : Nat} (h : X c k E hp) : X c (.blk id :: k) E hp := fun a w ho hi hw => h a w ho hi hw
def exitK (id : Nat) : List SItem → Option (List SItem)
  | [] => none
  | .code _ :: k => exitK id k
  | .inv _ :: k => exitK id k
  | .blk j :: k => match Nat.beq id j with | true => some k | false => exitK id k
theorem SQ_exit {id : Nat} : ∀ {k k' : List SItem}, exitK id k = some k' → ∀ a w, SQ c k' .normal a w → SQ c k (.exit id) a w
 | [], k', h => by simp [exitK] at h
 | .code _ :: k, k', h => fun a w hq => SQ_exit (k := k) h a w hq
 | .inv _ :: k, k', h => fun a w hq => SQ_exit (k := k) h a w hq
 | .blk j :: k, k', h => fun a w hq => by
  simp only [exitK] at h
  show (if id = j then SQ c k .normal a w else SQ c k (.exit id) a w)
  cases hb : Nat.beq id j with
  | true => rw [hb] at h; cases h; rw [if_pos (Nat.eq_of_beq_eq_true hb)]; exact hq
  | false => rw [hb] at h; rw [if_neg (Nat.ne_of_beq_eq_false hb)]; exact SQ_exit h a w hq
theorem X_exit {id : Nat} {k' : List SItem} (hk : exitK id k = some k') (h : X c k' E hp) : X c (.code (.exit id) :: k) E hp :=
 fun a w ho hi hw => wpIn_exit (SQ_exit hk a w (h a w ho hi hw))
theorem X_cond {x : Operand} {t e : Code} {b : Bool} (hx : ev E x = some (.bool b)) (ht : b = true → X c (.code t :: k) E hp) (hf : b = false → X c (.code e :: k) E hp) :
  X c (.code (.cond x t e) :: k) E hp := by
 intro a w ho hi hw
 refine wpIn_cond_split (ho.1.eval hx) (fun h => ?_) (fun h => ?_)
 ·exact wpIn_mono (ht h a w ho hi hw) (fun e a w he => by cases e <;> exact he)
 ·exact wpIn_mono (hf h a w ho hi hw) (fun e a w he => by cases e <;> exact he)
def LoopJ (c : Cx) {σ : Type} (μ : σ → Nat) (EI : σ → Env) (HI : σ → Heap → Prop) (s : σ) (a : Act) (w : World) : Prop :=
  ∃ s', μ s' < μ s ∧ (OK c.fn.ntmps (EI s') a ∧ a.defers = c.D) ∧ Inv c.w0 w ∧ HI s' w.heap
theorem X_loop {σ : Type} (μ : σ → Nat) (EI : σ → Env) (HI : σ → Heap → Prop) {body : Code} (s0 : σ) (hE : Sub (EI s0) E) (h0 : HI s0 hp)
  (round : ∀ s hp, HI s hp → X c (.code body :: .inv (LoopJ c μ EI HI s) :: k) (EI s) hp) : X c (.code (.loop body) :: k) E hp := by
 intro a w ho hi hw
 subst hw
 let J : Nat → Act → World → Prop := fun m a w => ∃ s, μ s = m ∧ (OK c.fn.ntmps (EI s) a ∧ a.defers = c.D) ∧ Inv c.w0 w ∧ HI s w.heap
 show (Code.loop body).wpIn (wdF c.r) 0 c.P (SQ c k) a w
 have hm : ∀ (a : Act) (w : World), (∃ m, J m a w) → ∃ m, J m a w ∧ ∀ m', m' < m → ¬ J m' a w := by
  intro a w ⟨m, hm⟩
  induction m using Nat.strongRecOn with
  | _ m ih =>
   by_cases h : ∃ m', m' < m ∧ J m' a w
   ·obtain ⟨m', hlt, hj⟩ := h; exact ih m' hlt hj
   ·exact ⟨m, hm, fun m' hlt hj => h ⟨m', hlt, hj⟩⟩
 refine wpIn_loop (fun a w => ∃ m, J m a w) (fun a w => Classical.epsilon fun m => J m a w ∧ ∀ m', m' < m → ¬ J m' a w) ⟨μ s0, s0, rfl, ⟨ho.1.sub hE, ho.2⟩, hi, h0⟩ ?_
 intro a w hJ
 have hs := Classical.epsilon_spec (hm a w hJ)
 generalize hg : (Classical.epsilon fun m => J m a w ∧ ∀ m', m' < m → ¬ J m' a w) = g at hs
 obtain ⟨⟨s, hμ, hok, hinv, hh⟩, _⟩ := hs
 have hr := round s w.heap hh a w hok hinv rfl
 refine wpIn_mono hr ?_
 intro e a' w' he
 cases e with
 | normal =>
  obtain ⟨s', hlt, hok', hinv', hh'⟩ := he
  have hJ' : ∃ m, J m a' w' := ⟨μ s', s', rfl, hok', hinv', hh'⟩
  refine ⟨hJ', ?_⟩
  have hs' := Classical.epsilon_spec (hm a' w' hJ')
  show (Classical.epsilon fun m => J m a' w' ∧ ∀ m', m' < m → ¬ J m' a' w') < _
  have hle : ¬ (μ s' < Classical.epsilon fun m => J m a' w' ∧ ∀ m', m' < m → ¬ J m' a' w') := fun hlt' => hs'.2 _ hlt' ⟨s', rfl, hok', hinv', hh'⟩
  omega
 | exit id => exact he
 | goto l => exact he
 | ret => exact he
 | panic ch => exact he
 | outgrown => exact he
theorem X_again {σ : Type} {μ : σ → Nat} {EI : σ → Env} {HI : σ → Heap → Prop} {s : σ} (s' : σ) (hE : Sub (EI s') E) (h : HI s' hp) (hlt : μ s' < μ s) :
  X c (.inv (LoopJ c μ EI HI s) :: k) E hp := fun _ _ ho hi hw => ⟨s', hlt, ⟨ho.1.sub hE, ho.2⟩, hi, by rw [hw]; exact h⟩
inductive RV (P : Program) (hp : Heap) (E : Env) : ResultVar → Value → Prop
  | tmp {t : Tmp} {v : Value} (h : E.get t = some v) : RV P hp E (.tmp t) v
  | cell {a : Tmp} {t : TypeId} {ad : Addr} {v : Value} (h : E.get a = some (.pointer (some ad))) (hl : ∀ w : World, w.heap = hp → (loadVar t ad).run P w = .ok v w) : RV P hp E (.cell a t) v
inductive RVs (P : Program) (hp : Heap) (E : Env) : List ResultVar → List Value → Prop
  | nil : RVs P hp E [] []
  | cons {r : ResultVar} {v : Value} {rs : List ResultVar} {vs : List Value} (h : RV P hp E r v) (t : RVs P hp E rs vs) : RVs P hp E (r :: rs) (v :: vs)
def resSem (tmps : Array Value) : ResultVar → Sem Value
  | .tmp t => pure (tmps.getD t undef)
  | .cell a t => do loadVar t (← asAddr (tmps.getD a undef))
theorem RV.run {P : Program} {n : Nat} {a : Act} {w : World} {r : ResultVar} {v : Value} (h : RV P hp E r v) (ho : OK n E a) (hw : w.heap = hp) : (resSem a.tmps r).run P w = .ok v w := by
 cases h with
 | tmp h => simp [resSem, ho.get _ _ h]
 | cell h hl => simp [resSem, ho.get _ _ h, asAddr, hl w hw]
theorem RVs.run {P : Program} {n : Nat} {a : Act} {w : World} (ho : OK n E a) (hw : w.heap = hp) : ∀ {rs : List ResultVar} {vs : List Value}, RVs P hp E rs vs →
  (List.mapM (m := Sem) (resSem a.tmps) rs).run P w = .ok vs w
 | _, _, .nil => by simp [List.mapM_nil, go_sem]
 | _, _, .cons (rs := rs) (vs := vs) h t => by
  have ih := RVs.run ho hw t
  have h1 := h.run ho hw
  simp only [List.mapM_cons, Sem.run_bind, h1, Result.andThen_ok, ih, Sem.run_pure]
def retVal : List Value → Value
  | [v] => v
  | vs => .tuple vs.toArray
theorem results_run {P : Program} {fn : Func} {n : Nat} {a : Act} {w : World} {vs : List Value} (ho : OK n E a) (hw : w.heap = hp) (h : RVs P hp E fn.results.toList vs) :
  (results fn a.tmps).run P w = .ok (retVal vs) w := by
 have hm : fn.results.mapM (m := Sem) (resSem a.tmps) = List.toArray <$> List.mapM (m := Sem) (resSem a.tmps) fn.results.toList := Array.mapM_eq_mapM_toList
 have he : (results fn a.tmps) = (do let vs ← fn.results.mapM (m := Sem) (resSem a.tmps); pure (if h : vs.size = 1 then vs[0] else .tuple vs)) := rfl
 rw [he, hm]
 simp only [Sem.run_bind, map_eq_pure_bind, RVs.run ho hw h, Result.andThen_ok, Sem.run_pure]
 congr 1
 match vs with
 | [] => rfl
 | [v] => rfl
 | _ :: _ :: _ => rfl
theorem post_plain {c : Cx} {E : Env} {hp : Heap} {vs : List Value} {a : Act} {w : World} {D : List Deferred} (hD : D = []) (h : RVs c.P hp E c.fn.results.toList vs) (hΦ : c.Φ (retVal vs) hp) (ho : OK c.fn.ntmps E a) (hi : Inv c.w0 w) (hw : w.heap = hp) :
  LeavesInM Fence.wide 0 c.P c.fn a.tmps c.R D .returning w := by
 subst hD
 exact ⟨retVal vs, results_run ho hw h, retVal vs, rfl, hi, by rw [hw]; exact hΦ⟩
def shutH (hp : Heap) (d : Nat) : Heap := hp.setIfInBounds d (.deferred none)
theorem post_mark {c : Cx} {E : Env} {hp : Heap} {vs : List Value} {a : Act} {w : World} {D : List Deferred} {d : Nat} (hD : D = [{ target := .collected d, args := #[] }]) (hd : hp[d]? = some (.deferred (some []))) (h : RVs c.P (shutH hp d) E c.fn.results.toList vs) (hΦ : c.Φ (retVal vs) (shutH hp d)) (ho : OK c.fn.ntmps E a) (hi : Inv c.w0 w) (hw : w.heap = hp) :
  LeavesInM Fence.wide 0 c.P c.fn a.tmps c.R D .returning w := by
 subst hD
 have ht : (Instr.takeDeferred d).run c.P w = .ok [] (w.putObj d (.deferred none)) := run_takeDeferred (by rw [hw]; exact hd)
 refine ⟨by simp, .inl ⟨d, w.putObj d (.deferred none), rfl, ht, ?_⟩⟩
 have hh : (w.putObj d (.deferred none)).heap = shutH hp d := by rw [← hw]; rfl
 exact ⟨retVal vs, results_run ho hh h, retVal vs, rfl, ⟨hi.os, hi.tape, hi.output⟩, by rw [hh]; exact hΦ⟩
theorem X_end {vs : List Value} (h : RVs c.P hp E c.fn.results.toList vs) (hΦ : c.Φ (retVal vs) hp) (hB : c.B = bodyPostM Fence.wide 0 c.P c.fn c.R := by rfl) (hD : c.D = [] := by rfl) : X c [] E hp := fun a w ho hi hw => by
 show c.B .normal a w
 rw [hB]
 exact post_plain (ho.2.trans hD) h hΦ ho.1 hi hw
theorem SQ_ret {a : Act} {w : World} (h : c.B .ret a w) : ∀ k, SQ c k .ret a w
 | [] => h
 | .code _ :: k => SQ_ret h k
 | .blk _ :: k => SQ_ret h k
 | .inv _ :: k => SQ_ret h k
theorem X_ret {vs : List Value} (h : RVs c.P hp E c.fn.results.toList vs) (hΦ : c.Φ (retVal vs) hp) (hB : c.B = bodyPostM Fence.wide 0 c.P c.fn c.R := by rfl) (hD : c.D = [] := by rfl) : X c (.code .ret :: k) E hp := fun a w ho hi hw => by
 refine wpIn_ret (SQ_ret ?_ k)
 rw [hB]
 exact post_plain (ho.2.trans hD) h hΦ ho.1 hi hw
theorem X_retM {vs : List Value} {d : Nat} (h : RVs c.P (shutH hp d) E c.fn.results.toList vs) (hΦ : c.Φ (retVal vs) (shutH hp d)) (hd : hp[d]? = some (.deferred (some []))) (hB : c.B = bodyPostM Fence.wide 0 c.P c.fn c.R := by rfl) (hD : c.D = [{ target := .collected d, args := #[] }] := by rfl) : X c (.code .ret :: k) E hp := fun a w ho hi hw => by
 refine wpIn_ret (SQ_ret ?_ k)
 rw [hB]
 exact post_mark (ho.2.trans hD) hd h hΦ ho.1 hi hw
end
def argE : Nat → List Value → Env
  | _, [] => []
  | i, v :: r => (i, v) :: argE (i + 1) r
theorem argE_get : ∀ (i : Nat) (l : List Value) (j : Nat) (v : Value), (argE i l).get j = some v → i ≤ j ∧ l[j - i]? = some v
 | _, [], _, _, h => by simp [argE, Env.get] at h
 | i, u :: r, j, v, h => by
  simp only [argE, Env.get_cons] at h
  by_cases hij : i = j
  ·subst hij; simp at h; subst h; simp
  ·rw [if_neg hij] at h
   obtain ⟨h1, h2⟩ := argE_get (i + 1) r j v h
   refine ⟨by omega, ?_⟩
   rw [show j - i = (j - (i + 1)) + 1 by omega, List.getElem?_cons_succ]
   exact h2
theorem ret_of_X {P : Program} {f : FuncId} {fn : Func} {code : Code} {args : List Value} {hp : Heap} {Φ : Value → Heap → Prop} (hf : P.funcs[f]? = some fn) (hb : fn.body = some code)
  (hn : Nat.ble args.length fn.ntmps = true) (h : ∀ w0 : World, w0.heap = hp → X (Cx.of P fn Φ w0) [.code code] (argE 0 args) hp) : Ret P f args hp Φ := by
 intro w hw
 refine callsIn_wide (n := 0).1 (callsIn_of_wp_marks hf hb trivial ?_)
 have hn' : args.length ≤ fn.ntmps := Nat.le_of_ble_eq_true hn
 have hx := h w hw { tmps := args.toArray ++ Array.replicate (fn.ntmps - args.toArray.size) undef, defers := [] } w ⟨⟨by simp; omega, fun i v hv => ?_⟩, rfl⟩ (Inv.refl w) hw
 ·exact wpIn_mono hx (fun e a w he => by cases e <;> exact he)
 ·obtain ⟨_, h2⟩ := argE_get 0 args i v hv
  have hlt : i < args.length := (List.getElem?_eq_some_iff.1 (by simpa using h2)).1
  rw [Array.getElem?_append_left (by simpa using hlt)]
  simpa using h2
inductive Cls where
  | pure | load | grow | wild
  deriving DecidableEq
def NoQ : Exit → Act → World → Prop := fun _ _ _ => False
def upW (P : Program) (S : Exit → Act → World → Prop) (o : Oper) (a : Act) (K : Act → World → Prop) : Result Next → Prop
  | .ok (.round l f tmps assign body) w' => RoundIn Fence.wide 0 P l f tmps assign body w' fun e w'' => ∃ u, e = .returned u ∧ K (a.put o.dst u) w''
  | r => o.upon P a K S r
def wq (P : Program) (S : Exit → Act → World → Prop) (o : Oper) (a : Act) (w : World) (K : Act → World → Prop)   : Prop := upW P S o a K ((execOp a.eval o).run P w)
theorem wp_NoQ {P : Program} {S : Exit → Act → World → Prop} {o : Oper} {a : Act} {w : World} {K : Act → World → Prop} (h : o.wp P a w K NoQ) : o.wp P a w K S := by
 unfold Oper.wp at *
 generalize (execOp a.eval o).run P w = r at *
 cases r with
 | ok n w' =>
  cases n <;> simp only [Oper.upon] at h ⊢ <;> first
   | exact h
   | exact Calls.mono h (fun e w'' he => by cases e <;> first | exact he | exact he.elim | (obtain ⟨_, _, hq⟩ := he; exact hq.elim))
 | halt x w' => cases x <;> simp only [Oper.upon] at h ⊢ <;> exact h.elim
theorem wq_of_wpS {P : Program} {S : Exit → Act → World → Prop} {o : Oper} {a : Act} {w : World} {K : Act → World → Prop} (h : o.wp P a w K S) : wq P S o a w K := by
 unfold wq
 unfold Oper.wp at h
 generalize (execOp a.eval o).run P w = r at *
 cases r with
 | ok n w' => cases n <;> first | exact h | exact h.elim
 | halt x w' => exact h
theorem wq_of_wp {P : Program} {S : Exit → Act → World → Prop} {o : Oper} {a : Act} {w : World} {K : Act → World → Prop} (h : o.wp P a w K NoQ) : wq P S o a w K := wq_of_wpS (wp_NoQ h)
theorem wq_mono {S : Exit → Act → World → Prop} {P : Program} {o : Oper} {a : Act} {w : World} {K K' : Act → World → Prop} (hm : ∀ a w, K a w → K' a w) (h : wq P S o a w K) : wq P S o a w K' := by
 unfold wq at *
 generalize (execOp a.eval o).run P w = r at *
 cases r with
 | ok n w' =>
  cases n <;> simp only [upW, Oper.upon] at h ⊢ <;> first
   | exact hm _ _ h
   | exact h
   | exact Calls.mono h (fun e w'' he => by cases e <;> first | exact hm _ _ he | exact he)
   | exact Rows.mono h (fun u w'' he => hm _ _ he)
   | exact RoundIn.mono h (fun e w'' ⟨u, hu, hk⟩ => ⟨u, hu, hm _ _ hk⟩)
 | halt x w' => cases x <;> simp only [upW, Oper.upon] at h ⊢ <;> exact h
def notDefer (o : Oper) : Bool := match o.op with
  | .defer _ => false
  | _ => true
theorem rowsIn_wdF {r : Option Nat} {P : Program} {row : String} {args : Array Value} {w : World} {R : Value → World → Prop} (h : Rows P row args w R) : RowsIn (wdF r) 0 P row args w R := by
 intro c cs _
 obtain ⟨v, w', hR, hs⟩ := h c cs
 exact ⟨v, w', hR, stepsIn_wide.2 hs⟩
theorem wq_in {r : Option Nat} {P : Program} {o : Oper} {a : Act} {w : World} {K : Act → World → Prop} {Q S : Exit → Act → World → Prop} (hS : ∀ e a w, S e a w → Q e a w) (hD : r = none ∨ notDefer o = true) (h : wq P S o a w K) : o.wpIn (wdF r) 0 P a w K Q := by
 refine ⟨fun _ _ => trivial, ?_⟩
 have hs : o.semAt (wdF r).round a.eval = execOp a.eval o := by
  rcases hD with rfl | hn
  ·rfl
  ·refine Oper.semAt_eq _ _ _ (fun c hc => ?_)
   unfold notDefer at hn; rw [hc] at hn; cases hn
 rw [hs]
 unfold wq at h
 generalize (execOp a.eval o).run P w = res at *
 have hdep : (wdF r).depth.isSome = true → 1 ≤ 0 := fun hh => by cases hh
 cases res with
 | ok n w' =>
  cases n <;> simp only [upW, Oper.upon, Oper.uponIn] at h ⊢ <;> first
   | exact h
   | exact h.elim
   | exact ⟨hdep, (callsIn_wide (n := 0 - 1)).2 (Calls.mono h (fun e w'' he => by cases e <;> first | exact he | exact hS _ _ _ he | (obtain ⟨a0, w0, hq⟩ := he; exact ⟨a0, w0, hS _ _ _ hq⟩)))⟩
   | exact ⟨hdep, rowsIn_wdF h⟩
   | exact ⟨hdep, RoundIn.mono h (fun e w'' ⟨u, hu, hk⟩ => by subst hu; exact hk)⟩
 | halt x w' => cases x <;> simp only [upW, Oper.upon, Oper.uponIn] at h ⊢ <;> first | exact h.elim | exact hS _ _ _ h
abbrev CF := Nat → Oper → Cls
def stepC (c : Cls) (P : Program) (S : Exit → Act → World → Prop) (o : Oper) (a : Act) (w : World) (K : Act → World → Prop) : Prop :=
  match c with
  | .pure => ∃ v, (∀ w', (execOp a.eval o).run P w' = .ok (.value v) w') ∧ K (a.put o.dst v) w
  | .load => ∃ v, (∀ w' : World, Ext w.heap w'.heap → (execOp a.eval o).run P w' = .ok (.value v) w') ∧ K (a.put o.dst v) w
  | .grow => o.wp P a w (fun a' w' => Ext w.heap w'.heap ∧ K a' w') S
  | .wild => wq P S o a w K
def stepI (cs : CF) (P : Program) (S : Exit → Act → World → Prop) (ops : Array Oper) (i : Nat) (a : Act) (w : World) (K : Act → World → Prop) : Prop :=
  ∃ o, ops[i]? = some o ∧ if Region.wanted o (yielded ops a.tmps) = true then stepC (cs i o) P S o a w K else K (a.put o.dst undef) w
theorem stepC.wq {S : Exit → Act → World → Prop} {c : Cls} {P : Program} {o : Oper} {a : Act} {w : World} {K : Act → World → Prop} (h : stepC c P S o a w K) : wq P S o a w K := by
 cases c with
 | pure => obtain ⟨v, hv, hk⟩ := h; refine wq_of_wp ?_; simp only [Oper.wp, hv w, Oper.upon]; exact hk
 | load => obtain ⟨v, hv, hk⟩ := h; refine wq_of_wp ?_; simp only [Oper.wp, hv w (Ext.refl _), Oper.upon]; exact hk
 | grow => exact wq_of_wpS (Oper.wp_mono (fun _ _ hk => hk.2) h)
 | wild => exact h
theorem stepC.mono {S : Exit → Act → World → Prop} {c : Cls} {P : Program} {o : Oper} {a : Act} {w : World} {K K' : Act → World → Prop} (hm : ∀ a w, K a w → K' a w) (h : stepC c P S o a w K) : stepC c P S o a w K' := by
 cases c with
 | pure => obtain ⟨v, hv, hk⟩ := h; exact ⟨v, hv, hm _ _ hk⟩
 | load => obtain ⟨v, hv, hk⟩ := h; exact ⟨v, hv, hm _ _ hk⟩
 | grow => exact Oper.wp_mono (fun _ _ hk => ⟨hk.1, hm _ _ hk.2⟩) h
 | wild => exact wq_mono hm h
theorem stepI.mono {S : Exit → Act → World → Prop} {cs : CF} {P : Program} {ops : Array Oper} {i : Nat} {a : Act} {w : World} {K K' : Act → World → Prop} (hm : ∀ a w, K a w → K' a w) (h : stepI cs P S ops i a w K) : stepI cs P S ops i a w K' := by
 obtain ⟨o, ho, h⟩ := h
 refine ⟨o, ho, ?_⟩
 split
 ·rename_i hw; rw [if_pos hw] at h; exact h.mono hm
 ·rename_i hw; rw [if_neg hw] at h; exact hm _ _ h
def noDefer (ops : Array Oper) : Bool := ops.all notDefer
def noDeferL : List Oper → Bool
  | [] => true
  | o :: r => notDefer o && noDeferL r
theorem noDeferL_spec : ∀ {l : List Oper}, noDeferL l = true → noDefer l.toArray = true
 | [], _ => by simp [noDefer]
 | o :: r, h => by
  simp only [noDeferL, Bool.and_eq_true] at h
  have := noDeferL_spec h.2
  simp only [noDefer, List.all_toArray, List.all_cons, Bool.and_eq_true] at this ⊢
  exact ⟨h.1, this⟩
theorem noDefer_at {ops : Array Oper} (h : noDefer ops = true) {i : Nat} {o : Oper} (hi : ops[i]? = some o) : notDefer o = true := by
 obtain ⟨hl, rfl⟩ := Array.getElem?_eq_some_iff.1 hi
 exact (Array.all_eq_true.1 h) i hl
theorem stepI.wpOp {r : Option Nat} {cs : CF} {P : Program} {ops : Array Oper} {Q S : Exit → Act → World → Prop} {i : Nat} {a : Act} {w : World} {K : Act → World → Prop} (hS : ∀ e a w, S e a w → Q e a w) (hD : r = none ∨ noDefer ops = true) (h : stepI cs P S ops i a w K) : wpOpIn (wdF r) 0 P ops Q i K a w := by
 obtain ⟨o, ho, h⟩ := h
 unfold Go.wpOpIn
 simp only [ho]
 split
 ·rename_i hw; rw [if_pos hw] at h; exact wq_in hS (hD.imp id (fun hn => noDefer_at hn ho)) h.wq
 ·rename_i hw; rw [if_neg hw] at h; exact ⟨fun _ _ => trivial, h⟩
def rgl (cs : CF) (P : Program) (S : Exit → Act → World → Prop) (ops : Array Oper) (N : Act → World → Prop) : List Nat → Act → World → Prop
  | [], a, w => N a w
  | i :: rest, a, w => stepI cs P S ops i a w (rgl cs P S ops N rest)
theorem rgl_ops {r : Option Nat} {cs : CF} {P : Program} {ops : Array Oper} {Q S : Exit → Act → World → Prop} (hS : ∀ e a w, S e a w → Q e a w) (hD : r = none ∨ noDefer ops = true) : ∀ (l : List Nat) (a : Act) (w : World), rgl cs P S ops (Q .normal) l a w → wpOpsIn (wdF r) 0 P ops Q l a w
 | [], _, _, h => h
 | i :: rest, a, w, h => by
  rw [wpOpsIn_cons]
  exact wpOpIn_mono (fun a w => rgl_ops hS hD rest a w) (h.wpOp hS hD)
def anyC (cs : CF) (P : Program) (S : Exit → Act → World → Prop) (ops : Array Oper) (N : Act → World → Prop) : Nat → Array Bool → Act → World → Prop
  | 0, listed, a, w => Region.ready .any ops listed = [] ∧ N a w
  | f + 1, listed, a, w => (Region.ready .any ops listed = [] → N a w) ∧
    ∀ i ∈ Region.ready .any ops listed, stepI cs P S ops i a w (anyC cs P S ops N f (listed.setIfInBounds i true))
theorem anyC.wpAny {r : Option Nat} {cs : CF} {P : Program} {ops : Array Oper} {Q S : Exit → Act → World → Prop} (hS : ∀ e a w, S e a w → Q e a w) (hD : r = none ∨ noDefer ops = true) : ∀ (f : Nat) (listed : Array Bool) (a : Act) (w : World), anyC cs P S ops (Q .normal) f listed a w → wpAnyIn (wdF r) 0 P .any ops Q f listed a w
 | 0, _, _, _, h => h
 | f + 1, _, _, _, h => ⟨h.1, fun i hi => wpOpIn_mono (fun a w => anyC.wpAny hS hD f _ a w) ((h.2 i hi).wpOp hS hD)⟩
def Gives (c : Cls) (P : Program) (ops : Array Oper) (o : Oper) (v : Value) (a : Act) (w : World) : Prop :=
  (Region.wanted o (yielded ops a.tmps) = true ∧ match c with
    | .pure => ∀ w', (execOp a.eval o).run P w' = .ok (.value v) w'
    | .load => ∀ w' : World, Ext w.heap w'.heap → (execOp a.eval o).run P w' = .ok (.value v) w'
    | _ => False) ∨
  (Region.wanted o (yielded ops a.tmps) = false ∧ v = undef)
theorem Gives.of_same {c : Cls} {P : Program} {ops : Array Oper} {o : Oper} {v : Value} {a a' : Act} {w w' : World} (h : Gives c P ops o v a w) (he : execOp a'.eval o = execOp a.eval o)
  (hw : Region.wanted o (yielded ops a'.tmps) = Region.wanted o (yielded ops a.tmps)) (hx : c = .load → Ext w.heap w'.heap) : Gives c P ops o v a' w' := by
 unfold Gives at *
 rw [he, hw]
 refine h.imp (fun h => ⟨h.1, ?_⟩) id
 have h2 := h.2
 cases c with
 | pure => exact h2
 | load => exact fun w'' hx' => h2 w'' ((hx rfl).trans hx')
 | grow => exact h2
 | wild => exact h2
theorem Gives.stepI {S : Exit → Act → World → Prop} {cs : CF} {P : Program} {ops : Array Oper} {i : Nat} {o : Oper} {v : Value} {a : Act} {w : World} (hi : ops[i]? = some o) (h : Gives (cs i o) P ops o v a w)
  {K : Act → World → Prop} (hk : K (a.put o.dst v) w) : stepI cs P S ops i a w K := by
 refine ⟨o, hi, ?_⟩
 rcases h with ⟨hw, h⟩ | ⟨hw, rfl⟩
 ·rw [if_pos hw]
  generalize cs i o = c at h ⊢
  cases c with
  | pure => exact ⟨v, h, hk⟩
  | load => exact ⟨v, h, hk⟩
  | grow => exact h.elim
  | wild => exact h.elim
 ·rw [if_neg (by rw [hw]; exact Bool.false_ne_true)]; exact hk
theorem gives_of_stepI {S : Exit → Act → World → Prop} {cs : CF} {P : Program} {ops : Array Oper} {i : Nat} {o : Oper} {a : Act} {w : World} {K : Act → World → Prop} (hi : ops[i]? = some o)
  (hc : cs i o = .pure ∨ cs i o = .load) (h : stepI cs P S ops i a w K) : ∃ v, Gives (cs i o) P ops o v a w ∧ K (a.put o.dst v) w := by
 obtain ⟨o', ho', h⟩ := h
 obtain rfl : o' = o := Option.some.inj (ho'.symm.trans hi)
 by_cases hw : Region.wanted o' (yielded ops a.tmps) = true
 ·rw [if_pos hw] at h
  rcases hc with hc | hc <;> rw [hc] at h ⊢ <;> obtain ⟨v, hv, hk⟩ := h <;> exact ⟨v, .inl ⟨hw, hv⟩, hk⟩
 ·rw [if_neg hw] at h
  exact ⟨undef, .inr ⟨by simpa using hw, rfl⟩, h⟩
theorem stepI_put {S : Exit → Act → World → Prop} (hIn : ∀ e a d v w, S e (Act.put a d v) w → S e a w) {cs : CF} {P : Program} {ops : Array Oper} {j : Nat} {oi oj : Oper} {c : Cls} {v : Value} (hj : ops[j]? = some oj) (hap : oi.apart ops oj = true)
  (hsi : ∀ cs b, oi.op ≠ .select cs b) (hsj : ∀ cs b, oj.op ≠ .select cs b) (hwl : c = .load → cs j oj ≠ .wild) {K : Act → World → Prop} {a : Act} {w : World}
  (hy : Gives c P ops oi v a w) (h : stepI cs P S ops j (a.put oi.dst v) w K) :
  stepI cs P S ops j a w (fun a' w' => Gives c P ops oi v a' w' ∧ K (a'.put oi.dst v) w') := by
 obtain ⟨h1, h2, h3⟩ := Oper.apart_spec hap
 have keep : ∀ (a : Act) (w w' : World), Gives c P ops oi v a w → (c = .load → Ext w.heap w'.heap) → ∀ u, Gives c P ops oi v (a.put oj.dst u) w' := fun a w w' hy hx u =>
  hy.of_same (execOp_put oi hsi a oj.dst u h3) (wanted_put oi a oj.dst u h3) hx
 have keepD : ∀ (w w' : World) (_ : c = .load → Ext w.heap w'.heap) (_ : Gives c P ops oi v a w) d, Gives c P ops oi v { a with defers := d :: a.defers } w' := fun w w' hx hy d => hy.of_same rfl rfl hx
 obtain ⟨o', ho', h⟩ := h
 obtain rfl : o' = oj := Option.some.inj (ho'.symm.trans hj)
 refine ⟨o', hj, ?_⟩
 rw [wanted_put o' a oi.dst v h1] at h
 split
 ·rename_i hw
  rw [if_pos hw] at h
  have he := execOp_put o' hsj a oi.dst v h1
  -- an operation's run, its frame turned
  have go : ∀ (K' K'' : Act → World → Prop), (∀ a' w', (∃ (u : Value) (a0 : Act), Gives c P ops oi v a0 w ∧ a' = a0.put o'.dst u) → K' (a'.put oi.dst v) w' → K'' a' w') → o'.wp P (a.put oi.dst v) w K' S → o'.wp P a w K'' S := by
   intro K' K'' hk hh
   unfold Oper.wp at *
   rw [he] at hh
   generalize (execOp a.eval o').run P w = r at *
   cases r with
   | ok n w' =>
    cases n <;> simp only [Oper.upon] at hh ⊢
    case value u => exact hk _ _ ⟨u, a, hy, rfl⟩ (by rw [← Act.put_comm a v u h2]; exact hh)
    case skip => exact hk _ _ ⟨undef, a, hy, rfl⟩ (by rw [← Act.put_comm a v undef h2]; exact hh)
    case defer d =>
     refine hk _ _ ⟨undef, { a with defers := d :: a.defers }, hy.of_same rfl rfl (fun _ => Ext.refl _), rfl⟩ ?_
     rw [← Act.put_comm _ v undef h2, ← Act.put_defers]
     exact hh
    case enter f args =>
     refine Calls.mono hh fun e w'' he => ?_
     cases e with
     | returned u => exact hk _ _ ⟨u, a, hy, rfl⟩ (by rw [← Act.put_comm a v u h2]; exact he)
     | panicked c => exact hIn _ _ _ _ _ he
     | outgrown => exact he
    case row row args => exact Rows.mono hh fun u w'' he => hk _ _ ⟨u, a, hy, rfl⟩ (by rw [← Act.put_comm a v u h2]; exact he)
   | halt x w' =>
    cases x <;> simp only [Oper.upon] at hh ⊢
    case panic u => exact hIn _ _ _ _ _ hh
  have goq : ∀ (K' K'' : Act → World → Prop), (∀ a' w', (∃ (u : Value) (a0 : Act), Gives c P ops oi v a0 w ∧ a' = a0.put o'.dst u) → K' (a'.put oi.dst v) w' → K'' a' w') → wq P S o' (a.put oi.dst v) w K' → wq P S o' a w K'' := by
   intro K' K'' hk hh
   unfold wq at *
   rw [he] at hh
   generalize (execOp a.eval o').run P w = r at *
   cases r with
   | ok n w' =>
    cases n <;> simp only [upW, Oper.upon] at hh ⊢
    case value u => exact hk _ _ ⟨u, a, hy, rfl⟩ (by rw [← Act.put_comm a v u h2]; exact hh)
    case skip => exact hk _ _ ⟨undef, a, hy, rfl⟩ (by rw [← Act.put_comm a v undef h2]; exact hh)
    case defer d =>
     refine hk _ _ ⟨undef, { a with defers := d :: a.defers }, hy.of_same rfl rfl (fun _ => Ext.refl _), rfl⟩ ?_
     rw [← Act.put_comm _ v undef h2, ← Act.put_defers]
     exact hh
    case enter f args =>
     refine Calls.mono hh fun e w'' he => ?_
     cases e with
     | returned u => exact hk _ _ ⟨u, a, hy, rfl⟩ (by rw [← Act.put_comm a v u h2]; exact he)
     | panicked c => exact hIn _ _ _ _ _ he
     | outgrown => exact he
    case row row args => exact Rows.mono hh fun u w'' he => hk _ _ ⟨u, a, hy, rfl⟩ (by rw [← Act.put_comm a v u h2]; exact he)
    case round l f tmps assign body => exact RoundIn.mono hh fun e w'' ⟨u, hu, he⟩ => ⟨u, hu, hk _ _ ⟨u, a, hy, rfl⟩ (by rw [← Act.put_comm a v u h2]; exact he)⟩
   | halt x w' =>
    cases x <;> simp only [upW, Oper.upon] at hh ⊢
    case panic u => exact hIn _ _ _ _ _ hh
  generalize hcj : cs j o' = cj at *
  cases cj with
  | pure =>
   obtain ⟨u, hu, hk⟩ := h
   rw [he] at hu
   exact ⟨u, hu, keep a w w hy (fun _ => Ext.refl _) u, by rw [← Act.put_comm a v u h2]; exact hk⟩
  | load =>
   obtain ⟨u, hu, hk⟩ := h
   rw [he] at hu
   exact ⟨u, hu, keep a w w hy (fun _ => Ext.refl _) u, by rw [← Act.put_comm a v u h2]; exact hk⟩
  | grow =>
   refine go _ _ ?_ h
   rintro a' w' ⟨u, a0, hy0, rfl⟩ ⟨hx, hk⟩
   exact ⟨hx, keep a0 w w' hy0 (fun _ => hx) u, hk⟩
  | wild =>
   refine goq _ _ ?_ h
   rintro a' w' ⟨u, a0, hy0, rfl⟩ hk
   exact ⟨keep a0 w w' hy0 (fun hl => absurd rfl (hwl hl)) u, hk⟩
 ·rename_i hw
  rw [if_neg hw] at h
  exact ⟨keep a w w hy (fun _ => Ext.refl _) undef, by rw [← Act.put_comm a v undef h2]; exact h⟩
theorem anyC_first {S : Exit → Act → World → Prop} (hIn : ∀ e a d v w, S e (Act.put a d v) w → S e a w) {cs : CF} {P : Program} {ops : Array Oper} {N : Act → World → Prop} {i : Nat} {oi : Oper} {v : Value} (hi : ops[i]? = some oi)
  (hsel : ∀ (j : Nat) (o : Oper) cs b, ops[j]? = some o → o.op ≠ .select cs b) (I : Array Bool → Prop)
  (hI : ∀ listed j, I listed → j ∈ Region.ready .any ops listed → j ≠ i → listed.getD i true = false → I (listed.setIfInBounds j true))
  (hfree : ∀ listed j oj, I listed → ops[j]? = some oj → j ∈ Region.ready .any ops listed → j ≠ i → listed.getD i true = false →
   oi.apart ops oj = true ∧ (cs i oi = .load → cs j oj ≠ .wild)) :
  ∀ (fuel : Nat) (listed : Array Bool) (a : Act) (w : World), I listed → i ∈ Region.ready .any ops listed → Gives (cs i oi) P ops oi v a w →
   anyC cs P S ops N fuel (listed.setIfInBounds i true) (a.put oi.dst v) w → anyC cs P S ops N (fuel + 1) listed a w := by
 intro fuel
 induction fuel with
 | zero =>
  intro listed a w _ hr hy H
  refine ⟨fun h => (by rw [h] at hr; cases hr), fun j hj => ?_⟩
  by_cases hji : j = i
  ·subst hji; exact hy.stepI hi H
  ·have := ready_mono hj hji
   rw [H.1] at this
   cases this
 | succ fuel ih =>
  intro listed a w inv hr hy H
  refine ⟨fun h => (by rw [h] at hr; cases hr), fun j hj => ?_⟩
  by_cases hji : j = i
  ·subst hji; exact hy.stepI hi H
  ·have h1 := H.2 j (ready_mono hj hji)
   obtain ⟨hjun, oj, hoj, hall⟩ := mem_ready.1 hj
   have hun := (mem_ready.1 hr).1
   obtain ⟨hap, hwl⟩ := hfree listed j oj inv hoj hj hji hun
   have h2 := stepI_put hIn hoj hap (fun cs b => hsel i oi cs b hi) (fun cs b => hsel j oj cs b hoj) hwl hy h1
   refine stepI.mono (fun a' w' h3 => ih (listed.setIfInBounds j true) a' w' (hI listed j inv hj hji hun) (ready_mono hr (Ne.symm hji)) h3.1 ?_) h2
   rw [Array.setIfInBounds_comm _ _ hji]
   exact h3.2
def befOk (b : Array Nat) (ops : Array Oper) : Bool :=
  (List.range ops.size).all fun j => match ops[j]? with
    | none => true
    | some oj => (List.range ops.size).all fun i => !(b.getD j 0).testBit i || oj.after.any fun e => Region.binds .any e && Nat.blt e.on j && (Nat.beq e.on i || (b.getD e.on 0).testBit i)
def quietAt (cs : CF) (ops : Array Oper) (b : Array Nat) (listed : Array Bool) (k : Nat) : Bool :=
  match ops[k]? with
  | none => false
  | some ok => (List.range ops.size).all fun j => Nat.beq j k || listed.getD j true || (b.getD j 0).testBit k || match ops[j]? with
      | none => true
      | some oj => ok.apart ops oj && (match cs k ok, cs j oj with | .load, .wild => false | _, _ => true)
def sch (cs : CF) (ops : Array Oper) (b : Array Nat) : List Nat → Array Bool → Bool
  | [], listed => (Region.ready .any ops listed).isEmpty
  | k :: rest, listed => (match ops[k]? with
      | none => false
      | some ok => match cs k ok with
        | .pure | .load => (Region.ready .any ops listed).contains k && quietAt cs ops b listed k
        | _ => Region.ready .any ops listed == [k]) && sch cs ops b rest (listed.setIfInBounds k true)
def schB (cs : CF) (ops : Array Oper) (ord : List Nat) : Bool :=
  Region.noSelect ops && befOk (Region.before ops) ops && Nat.beq ord.length ops.size && sch cs ops (Region.before ops) ord (Array.replicate ops.size false)
def Closed (ops : Array Oper) (listed : Array Bool) : Prop := ∀ j oj, ops[j]? = some oj → listed.getD j false = true → ∀ e ∈ oj.after, Region.binds .any e = true → listed.getD e.on false = true
theorem getD_replicate_false (m j : Nat) : (Array.replicate m false).getD j false = false := by
 rcases Nat.lt_or_ge j m with h | h <;> simp [h]
theorem not_both {listed : Array Bool} {i : Nat} (h : listed.getD i true = false) (h' : listed.getD i false = true) : False := by
 rcases Nat.lt_or_ge i listed.size with hlt | hge
 ·simp [hlt] at h h'; rw [h] at h'; cases h'
 ·simp [Array.getElem?_eq_none hge] at h
theorem befOk_spec {b : Array Nat} {ops : Array Oper} (h : befOk b ops = true) {j i : Nat} {oj : Oper} (hj : ops[j]? = some oj) (hi : i < ops.size) (hb : (b.getD j 0).testBit i = true) :
  ∃ e ∈ oj.after, Region.binds .any e = true ∧ e.on < j ∧ (e.on = i ∨ (b.getD e.on 0).testBit i = true) := by
 have hjlt := (Array.getElem?_eq_some_iff.1 hj).1
 have h1 := List.all_eq_true.1 h j (List.mem_range.2 hjlt)
 simp only [hj] at h1
 have h2 := List.all_eq_true.1 h1 i (List.mem_range.2 hi)
 rw [hb] at h2
 simp only [Bool.not_true, Bool.false_or] at h2
 obtain ⟨e, he, hx⟩ := Array.any_eq_true'.1 h2
 simp only [Bool.and_eq_true, Bool.or_eq_true, Nat.blt_eq] at hx
 exact ⟨e, he, hx.1.1, hx.1.2, hx.2.imp Nat.eq_of_beq_eq_true id⟩
theorem closed_not {b : Array Nat} {ops : Array Oper} (h : befOk b ops = true) {listed : Array Bool} (hc : Closed ops listed) {i : Nat} (hi : i < ops.size) (hun : listed.getD i true = false) :
  ∀ j, listed.getD j false = true → (b.getD j 0).testBit i = true → j < ops.size → False := by
 intro j
 induction j using Nat.strongRecOn with
 | _ j ih =>
  intro hl hb hj
  obtain ⟨e, he, hbi, hlt, hor⟩ := befOk_spec h (Array.getElem?_eq_getElem hj) hi hb
  have hle := hc j _ (Array.getElem?_eq_getElem hj) hl e he hbi
  rcases hor with rfl | hb'
  ·exact not_both hun hle
  ·exact ih e.on hlt hle hb' (by omega)
theorem Closed.set {ops : Array Oper} {listed : Array Bool} (hc : Closed ops listed) {i : Nat} (hi : i ∈ Region.ready .any ops listed) : Closed ops (listed.setIfInBounds i true) := by
 obtain ⟨_, oi, hoi, hall⟩ := mem_ready.1 hi
 intro j oj hj hl e he hb
 by_cases hij : i = j
 ·subst hij
  obtain rfl : oj = oi := Option.some.inj (hj.symm.trans hoi)
  exact getD_set_true (hall e he hb)
 ·rw [getD_set_ne false hij] at hl
  exact getD_set_true (hc j oj hj hl e he hb)
theorem rgl_any {S : Exit → Act → World → Prop} (hIn : ∀ e a d v w, S e (Act.put a d v) w → S e a w) {cs : CF} {P : Program} {ops : Array Oper} {N : Act → World → Prop} {b : Array Nat} (hs : Region.noSelect ops = true) (hbk : befOk b ops = true) :
  ∀ (ord : List Nat) (listed : Array Bool) (a : Act) (w : World), Closed ops listed → sch cs ops b ord listed = true → rgl cs P S ops N ord a w → anyC cs P S ops N ord.length listed a w
 | [], listed, a, w, _, hB, h => ⟨by simpa [sch] using hB, h⟩
 | k :: rest, listed, a, w, hc, hB, h => by
  simp only [sch, Bool.and_eq_true] at hB
  obtain ⟨h1, h2⟩ := hB
  have h0 : stepI cs P S ops k a w (rgl cs P S ops N rest) := h
  obtain ⟨ok, hok, _⟩ := id h0
  have quiet : (cs k ok = .pure ∨ cs k ok = .load) → (Region.ready .any ops listed).contains k = true → quietAt cs ops b listed k = true → anyC cs P S ops N (rest.length + 1) listed a w := by
   intro hcl hr hq
   have hrk : k ∈ Region.ready .any ops listed := by simpa using hr
   have hklt := (Array.getElem?_eq_some_iff.1 hok).1
   obtain ⟨v, hy, hk⟩ := gives_of_stepI hok hcl h0
   refine anyC_first hIn hok (Region.noSelect_spec hs) (fun l => Closed ops l ∧ ∀ j, listed.getD j true = true → l.getD j true = true) ?_ ?_ rest.length listed a w ⟨hc, fun _ h => h⟩ hrk hy
    (rgl_any hIn hs hbk rest _ _ _ (hc.set hrk) h2 hk)
   ·intro l j ⟨hcl', hmono⟩ hj hne hun
    refine ⟨hcl'.set hj, fun i hi => ?_⟩
    by_cases hji : j = i
    ·subst hji
     have hlt : j < l.size := by
      rcases Nat.lt_or_ge j l.size with h | h
      ·exact h
      ·exact absurd (mem_ready.1 hj).1 (by simp [Array.getElem?_eq_none h])
     simp [hlt]
    ·rw [getD_set_ne true hji]; exact hmono i hi
   ·intro l j oj ⟨hcl', hmono⟩ hoj hj hne hun
    have hjlt := (Array.getElem?_eq_some_iff.1 hoj).1
    obtain ⟨hjun, oj', hoj', hall⟩ := mem_ready.1 hj
    obtain rfl : oj' = oj := Option.some.inj (hoj'.symm.trans hoj)
    unfold quietAt at hq
    simp only [hok] at hq
    have h3 := List.all_eq_true.1 hq j (List.mem_range.2 hjlt)
    have hnl : listed.getD j true = false := by
     cases hl : listed.getD j true with
     | false => rfl
     | true => rw [hmono j hl] at hjun; cases hjun
    simp only [hnl, hoj, Bool.or_false, Bool.or_eq_true, Bool.and_eq_true] at h3
    rcases h3 with (h3 | h3) | h3
    ·exact absurd (Nat.eq_of_beq_eq_true h3) hne
    ·exfalso
     obtain ⟨e, he, hbi, hlt, hor⟩ := befOk_spec hbk hoj hklt h3
     have hle := hall e he hbi
     rcases hor with rfl | hb'
     ·exact not_both hun hle
     ·exact closed_not hbk hcl' hklt hun e.on hle hb' (by omega)
    ·have h4 := h3
     refine ⟨h4.1, fun hl hw => ?_⟩
     have h5 := h4.2
     rw [hl, hw] at h5
     cases h5
  have loud : Region.ready .any ops listed = [k] → anyC cs P S ops N (rest.length + 1) listed a w := by
   intro hr
   refine ⟨fun h => (by rw [hr] at h; cases h), fun i hi => ?_⟩
   rw [hr] at hi
   obtain rfl : i = k := by simpa using hi
   exact h0.mono fun a' w' h' => rgl_any hIn hs hbk rest _ _ _ (hc.set (by rw [hr]; simp)) h2 h'
  simp only [hok] at h1
  generalize hcl : cs k ok = cl at h1
  cases cl with
  | pure => simp only [Bool.and_eq_true] at h1; exact quiet (.inl hcl) h1.1 h1.2
  | load => simp only [Bool.and_eq_true] at h1; exact quiet (.inr hcl) h1.1 h1.2
  | grow => exact loud (by simpa using h1)
  | wild => exact loud (by simpa using h1)
theorem wp_region_rgl {r : Option Nat} {P : Program} {id : Nat} {ops : Array Oper} {Q S : Exit → Act → World → Prop} (hS : ∀ e a w, S e a w → Q e a w) (hIn : ∀ e a d v w, S e (Act.put a d v) w → S e a w) {a : Act} {w : World} (cs : CF) (ord : List Nat) (hD : r = none ∨ noDefer ops = true) (hm : P.follows .mixedOrders = true) (hB : schB cs ops ord = true)
  (h : rgl cs P S ops (Q .normal) ord a { w with drawn := w.drawn + 1 }) : (Code.region id ops true).wpIn (wdF r) 0 P Q a w := by
 simp only [schB, Bool.and_eq_true] at hB
 obtain ⟨⟨⟨hs, hb⟩, hl⟩, hsch⟩ := hB
 refine wpIn_region_any hm (anyC.wpAny (cs := cs) hS hD _ _ _ _ ?_)
 have key := rgl_any (N := Q .normal) hIn hs hb ord (Array.replicate ops.size false) a { w with drawn := w.drawn + 1 } (fun j oj _ hl' => absurd hl' (by
  rw [getD_replicate_false]; exact Bool.false_ne_true)) hsch h
 rw [Nat.eq_of_beq_eq_true hl] at key
 exact key
theorem wp_region_rgl_text {r : Option Nat} {P : Program} {id : Nat} {ops : Array Oper} {Q S : Exit → Act → World → Prop} (hS : ∀ e a w, S e a w → Q e a w) {a : Act} {w : World} (cs : CF) (hD : r = none ∨ noDefer ops = true)
  (h : rgl cs P S ops (Q .normal) (List.range ops.size) a w) : (Code.region id ops false).wpIn (wdF r) 0 P Q a w := wpIn_region (rgl_ops hS hD _ _ _ h)
def wantedE (ops : Array Oper) (E : Env) (o : Oper) : Option Bool :=
  match o.guard with
  | none => some true
  | some (j, want) => match (ops[j]?).bind (·.dst) with
    | none => none
    | some t => match E.get t with
      | some (.bool b) => some (b == want)
      | some (.tuple _) => some false
      | _ => none
theorem wantedE_spec {n : Nat} {ops : Array Oper} {E : Env} {o : Oper} {b : Bool} {a : Act} (h : wantedE ops E o = some b) (ho : OK n E a) : Region.wanted o (yielded ops a.tmps) = b := by
 unfold wantedE at h
 unfold Region.wanted
 cases hg : o.guard with
 | none => rw [hg] at h; simpa using h
 | some g =>
  obtain ⟨j, want⟩ := g
  rw [hg] at h
  simp only at h ⊢
  cases ht : (ops[j]?).bind (·.dst) with
  | none => rw [ht] at h; cases h
  | some t =>
   rw [ht] at h
   simp only at h
   unfold yielded
   rw [ht]
   cases he : E.get t with
   | none => rw [he] at h; cases h
   | some v =>
    rw [he] at h
    simp only [Option.bind_some, ho.get t v he]
    cases v <;> first
     | (cases h; done)
     | (cases h; rfl)
     | (cases h; rename_i b; cases b <;> cases want <;> rfl)
def pairsFrom : Nat → List Oper → List (Nat × Oper)
  | _, [] => []
  | i, o :: r => (i, o) :: pairsFrom (i + 1) r
def rgp (cs : CF) (P : Program) (S : Exit → Act → World → Prop) (ops : Array Oper) (N : Act → World → Prop) : List (Nat × Oper) → Act → World → Prop
  | [], a, w => N a w
  | (i, o) :: rest, a, w => if Region.wanted o (yielded ops a.tmps) = true then stepC (cs i o) P S o a w (rgp cs P S ops N rest) else rgp cs P S ops N rest (a.put o.dst undef) w
theorem rgp_rgl {S : Exit → Act → World → Prop} {cs : CF} {P : Program} {ops : Array Oper} {N : Act → World → Prop} : ∀ (l : List (Nat × Oper)), (∀ p ∈ l, ops[p.1]? = some p.2) → ∀ a w, rgp cs P S ops N l a w → rgl cs P S ops N (l.map (·.1)) a w
 | [], _, _, _, h => h
 | (i, o) :: rest, hl, a, w, h => by
  have ih := rgp_rgl (S := S) (cs := cs) (P := P) (N := N) rest (fun p hp => hl p (List.mem_cons_of_mem _ hp))
  refine ⟨o, hl (i, o) List.mem_cons_self, ?_⟩
  simp only [rgp] at h
  split
  ·rename_i hw; rw [if_pos hw] at h; exact h.mono ih
  ·rename_i hw; rw [if_neg hw] at h; exact ih _ _ h
theorem pairsFrom_fst : ∀ (l : List Oper) (i : Nat), (pairsFrom i l).map (·.1) = List.range' i l.length
 | [], _ => rfl
 | o :: r, i => by simp [pairsFrom, pairsFrom_fst r (i + 1), List.range'_succ]
theorem pairsFrom_mem : ∀ (l : List Oper) (i : Nat) (p : Nat × Oper), p ∈ pairsFrom i l → i ≤ p.1 ∧ l[p.1 - i]? = some p.2
 | [], _, _, h => by simp [pairsFrom] at h
 | o :: r, i, p, h => by
  simp only [pairsFrom, List.mem_cons] at h
  rcases h with rfl | h
  ·simp
  ·obtain ⟨h1, h2⟩ := pairsFrom_mem r (i + 1) p h
   refine ⟨by omega, ?_⟩
   rw [show p.1 - i = (p.1 - (i + 1)) + 1 by omega, List.getElem?_cons_succ]
   exact h2
section
variable {c : Cx} {k : List SItem} {E : Env} {hp : Heap} {ops : Array Oper} {cs : CF}
def PQ (c : Cx) (k : List SItem) : Exit → Act → World → Prop
  | .panic ch, a, w => ∃ E0 D, (OK c.fn.ntmps E0 a ∧ a.defers = D) ∧ (c.pd = true → E0 = []) ∧ ∀ a', (OK c.fn.ntmps E0 a' ∧ a'.defers = D) → SQ c k (.panic ch) a' w
  | _, _, _ => False
theorem PQ_SQ (e : Exit) (a : Act) (w : World) (h : PQ c k e a w) : SQ c k e a w := by
 cases e with
 | panic ch => obtain ⟨E0, D, h1, _, h2⟩ := h; exact h2 a h1
 | _ => exact h.elim
theorem put_size (a : Act) (d : Option Nat) (v : Value) : (a.put d v).tmps.size = a.tmps.size := by cases d <;> simp [Act.put]
theorem PQ_put (hE : c.pd = true) (e : Exit) (a : Act) (d : Option Nat) (v : Value) (w : World) (h : PQ c k e (a.put d v) w) : PQ c k e a w := by
 cases e with
 | panic ch =>
  obtain ⟨E0, D, h1, h2, h3⟩ := h
  obtain rfl := h2 hE
  exact ⟨[], D, ⟨⟨(put_size a d v).symm.trans h1.1.size, fun i v hv => by simp [Env.get] at hv⟩, (put_defers a d v).symm.trans h1.2⟩, fun _ => rfl, h3⟩
 | _ => exact h.elim
def XR (c : Cx) (cs : CF) (ops : Array Oper) (l : List (Nat × Oper)) (k : List SItem) (E : Env) (hp : Heap) : Prop :=
  ∀ a w, (OK c.fn.ntmps E a ∧ a.defers = c.D) → Inv c.w0 w → w.heap = hp → rgp cs c.P (PQ c k) ops (SQ c k .normal) l a w
def allWild : CF := fun _ _ => .wild
theorem X_reg {id : Nat} {l : List Oper} (h : XR c allWild l.toArray (pairsFrom 0 l) k E hp) (hD0 : c.r = none ∨ noDeferL l = true := by first | exact .inl rfl | exact .inr rfl) : X c (.code (.region id l.toArray false) :: k) E hp := by
 intro a w ho hi hw
 have hD := hD0.imp (fun hh => hh) noDeferL_spec
 refine wp_region_rgl_text PQ_SQ allWild hD ?_
 have := rgp_rgl _ (fun p hp => by simpa using (pairsFrom_mem l 0 p hp).2) a w (h a w ho hi hw)
 rw [pairsFrom_fst] at this
 rw [List.range_eq_range']
 simpa using this
theorem X_draw {id : Nat} {l : List Oper} (cs : CF) (hm : c.P.follows .mixedOrders = true) (hB : schB cs l.toArray (List.range l.length) = true) (h : XR c cs l.toArray (pairsFrom 0 l) k E hp) (hD0 : c.r = none ∨ noDeferL l = true := by first | exact .inl rfl | exact .inr rfl) (hE0 : c.pd = true := by rfl) :
  X c (.code (.region id l.toArray true) :: k) E hp := by
 intro a w ho hi hw
 have hD := hD0.imp (fun hh => hh) noDeferL_spec
 refine wp_region_rgl PQ_SQ (PQ_put hE0) cs _ hD hm hB ?_
 have := rgp_rgl _ (fun p hp => by simpa using (pairsFrom_mem l 0 p hp).2) a { w with drawn := w.drawn + 1 } (h a { w with drawn := w.drawn + 1 } ho ⟨hi.os, hi.tape, hi.output⟩ hw)
 rw [pairsFrom_fst] at this
 rw [List.range_eq_range']
 simpa using this
def pick (ops : List Oper) : List Nat → Option (List (Nat × Oper))
  | [] => some []
  | i :: r => match ops[i]? with
    | none => none
    | some o => match pick ops r with
      | none => none
      | some l => some ((i, o) :: l)
theorem pick_spec {ops : List Oper} : ∀ {ord : List Nat} {l : List (Nat × Oper)}, pick ops ord = some l → l.map (·.1) = ord ∧ ∀ p ∈ l, ops[p.1]? = some p.2
 | [], l, h => by simp only [pick] at h; cases h; simp
 | i :: r, l, h => by
  simp only [pick] at h
  split at h
  ·cases h
  ·rename_i o ho
   split at h
   ·cases h
   ·rename_i l' hl'
    cases h
    obtain ⟨h1, h2⟩ := pick_spec hl'
    refine ⟨by simp [h1], fun p hp => ?_⟩
    rcases List.mem_cons.1 hp with rfl | hp
    ·exact ho
    ·exact h2 p hp
theorem X_draw_in {id : Nat} {l : List Oper} (cs : CF) (ord : List Nat) {lo : List (Nat × Oper)} (hm : c.P.follows .mixedOrders = true) (hB : schB cs l.toArray ord = true) (hl : pick l ord = some lo)
  (h : XR c cs l.toArray lo k E hp) (hD0 : c.r = none ∨ noDeferL l = true := by first | exact .inl rfl | exact .inr rfl) (hE0 : c.pd = true := by rfl) : X c (.code (.region id l.toArray true) :: k) E hp := by
 intro a w ho hi hw
 have hD := hD0.imp (fun hh => hh) noDeferL_spec
 refine wp_region_rgl PQ_SQ (PQ_put hE0) cs ord hD hm hB ?_
 obtain ⟨h1, h2⟩ := pick_spec hl
 have := rgp_rgl _ (fun p hp => by simpa using h2 p hp) a { w with drawn := w.drawn + 1 } (h a { w with drawn := w.drawn + 1 } ho ⟨hi.os, hi.tape, hi.output⟩ hw)
 rwa [h1] at this
def clsOf (o : Oper) : Cls :=
  match o.op with
  | .move _ | .assign _ | .pick .. | .nilCheck _ | .fieldAddr .. | .field .. | .indexAddr .. | .index .. | .extract .. | .unOp .. | .makeInterface .. | .build .. => .pure
  | .binOp .. | .load .. | .convert .. | .slice .. => .load
  | .call { callee := .builtin .len, .. } | .call { callee := .builtin .cap, .. } | .call { callee := .builtin .min, .. } | .call { callee := .builtin .max, .. } => .load
  | .buildSlice .. | .alloc .. | .box .. | .makeSlice .. => .grow
  | _ => .wild
def byKind : CF := fun _ o => clsOf o
def butAt (l : List (Nat × Cls)) : CF := fun i o =>
  match l with
  | [] => clsOf o
  | (j, x) :: r => match Nat.beq i j with
    | true => x
    | false => butAt r i o
theorem X_if {x : Operand} {t e : Code} {p : Prop} [Decidable p] (hx : ev E x = some (.bool (decide p))) (ht : p → X c (.code t :: k) E hp) (hf : ¬ p → X c (.code e :: k) E hp) :
  X c (.code (.cond x t e) :: k) E hp := X_cond hx (fun h => ht (of_decide_eq_true h)) (fun h => hf (of_decide_eq_false h))
theorem X_then {x : Operand} {t e : Code} (hx : ev E x = some (.bool true)) (ht : X c (.code t :: k) E hp) : X c (.code (.cond x t e) :: k) E hp := X_cond hx (fun _ => ht) (fun h => by cases h)
theorem X_else {x : Operand} {t e : Code} (hx : ev E x = some (.bool false)) (hf : X c (.code e :: k) E hp) : X c (.code (.cond x t e) :: k) E hp := X_cond hx (fun h => by cases h) (fun _ => hf)
theorem XR_nil (h : X c k E hp) : XR c cs ops [] k E hp := h
theorem XR_sub {E' : Env} {l : List (Nat × Oper)} (hs : Sub E' E) (h : XR c cs ops l k E' hp) : XR c cs ops l k E hp := fun a w ho hi hw => h a w ⟨ho.1.sub hs, ho.2⟩ hi hw
def Op1 (cl : Cls) (P : Program) (o : Oper) (E : Env) (hp : Heap) (v : Value) : Prop :=
  ∀ n a, OK n E a → match cl with
    | .pure => ∀ w', (execOp a.eval o).run P w' = .ok (.value v) w'
    | _ => ∀ w' : World, Ext hp w'.heap → (execOp a.eval o).run P w' = .ok (.value v) w'
theorem Op1.of_pure {cl : Cls} {P : Program} {o : Oper} {v : Value} (h : ∀ n a, OK n E a → ∀ w', (execOp a.eval o).run P w' = .ok (.value v) w') : Op1 cl P o E hp v := by
 intro n a ho
 have := h n a ho
 cases cl <;> first | exact this | exact fun w' _ => this w'
theorem XR_1 {i : Nat} {o : Oper} {rest : List (Nat × Oper)} {v : Value} (hf : fits c.fn.ntmps o.dst = true) (hw : wantedE ops E o = some true) (h1 : Op1 (cs i o) c.P o E hp v)
  (h : XR c cs ops rest k (E.putD o.dst v) hp) : XR c cs ops ((i, o) :: rest) k E hp := by
 intro a w ho hi hh
 subst hh
 simp only [rgp, wantedE_spec hw ho.1, if_true]
 have h2 := h1 _ a ho.1
 have h3 := h (a.put o.dst v) w ⟨ho.1.put v hf, (put_defers _ _ _).trans ho.2⟩ hi rfl
 generalize cs i o = cl at h2 ⊢
 cases cl with
 | pure => exact ⟨v, h2, h3⟩
 | load => exact ⟨v, h2, h3⟩
 | grow => simp only [stepC, Oper.wp, h2 w (Ext.refl _), Oper.upon]; exact ⟨Ext.refl _, h3⟩
 | wild => refine wq_of_wp ?_; simp only [Oper.wp, h2 w (Ext.refl _), Oper.upon]; exact h3
theorem XR_pass {i : Nat} {o : Oper} {rest : List (Nat × Oper)} (hf : fits c.fn.ntmps o.dst = true) (hw : wantedE ops E o = some false) (h : XR c cs ops rest k (E.putD o.dst undef) hp) :
  XR c cs ops ((i, o) :: rest) k E hp := by
 intro a w ho hi hh
 simp only [rgp, wantedE_spec hw ho.1, Bool.false_eq_true, if_false]
 exact h (a.put o.dst undef) w ⟨ho.1.put undef hf, (put_defers _ _ _).trans ho.2⟩ hi hh
theorem XR_a {i : Nat} {d : Tmp} {op : Op} {ty : TypeId} {pos : String} {af : Array Edge} {g : Option (Nat × Bool)} {rest : List (Nat × Oper)} {v : Value}
  (h1 : Op1 (cs i ⟨some d, op, ty, pos, af, g⟩) c.P ⟨some d, op, ty, pos, af, g⟩ E hp v) (hf : Nat.blt d c.fn.ntmps = true) (hw : wantedE ops E ⟨some d, op, ty, pos, af, g⟩ = some true)
  (h : XR c cs ops rest k ((d, v) :: E) hp) : XR c cs ops ((i, ⟨some d, op, ty, pos, af, g⟩) :: rest) k E hp := XR_1 hf hw h1 h
theorem XR_no {i : Nat} {d : Tmp} {op : Op} {ty : TypeId} {pos : String} {af : Array Edge} {g : Option (Nat × Bool)} {rest : List (Nat × Oper)}
  (hw : wantedE ops E ⟨some d, op, ty, pos, af, g⟩ = some false) (hf : Nat.blt d c.fn.ntmps = true)
  (h : XR c cs ops rest k ((d, undef) :: E) hp) : XR c cs ops ((i, ⟨some d, op, ty, pos, af, g⟩) :: rest) k E hp := XR_pass hf hw h
theorem XR_as {l : List (Nat × Oper)} {t : Nat} {v : Value} (v' : Value) (hv : v = v') (h : XR c cs ops l k ((t, v') :: E) hp) : XR c cs ops l k ((t, v) :: E) hp := by subst hv; exact h
theorem XR_split {l : List (Nat × Oper)} (t : Nat) {b : Bool} (hb : E.get t = some (.bool b)) (ht : b = true → XR c cs ops l k ((t, .bool true) :: E) hp) (hf : b = false → XR c cs ops l k ((t, .bool false) :: E) hp) :
  XR c cs ops l k E hp := by
 have hs : ∀ b' : Bool, b = b' → Sub ((t, .bool b') :: E) E := fun b' e => Sub.cons (e ▸ hb) (Sub.refl E)
 cases b
 ·exact XR_sub (hs false rfl) (hf rfl)
 ·exact XR_sub (hs true rfl) (ht rfl)
theorem XR_if {l : List (Nat × Oper)} (t : Nat) {p : Prop} [Decidable p] (hb : E.get t = some (.bool (decide p))) (ht : p → XR c cs ops l k ((t, .bool true) :: E) hp) (hf : ¬ p → XR c cs ops l k ((t, .bool false) :: E) hp) :
  XR c cs ops l k E hp := XR_split t hb (fun h => ht (of_decide_eq_true h)) (fun h => hf (of_decide_eq_false h))
def OpL (P : Program) (o : Oper) (E : Env) (hp : Heap) (Φ : Value → Heap → Prop) : Prop :=
  ∀ n a w, OK n E a → w.heap = hp → ∀ K : Act → World → Prop, (∀ v w', Inv w w' → Φ v w'.heap → K (a.put o.dst v) w') → o.wp P a w K NoQ
theorem XR_w {i : Nat} {o : Oper} {rest : List (Nat × Oper)} {Φ : Value → Heap → Prop} (hf : fits c.fn.ntmps o.dst = true) (hw : wantedE ops E o = some true) (hc : cs i o = .wild) (h1 : OpL c.P o E hp Φ)
  (h : ∀ v hp', Φ v hp' → XR c cs ops rest k (E.putD o.dst v) hp') : XR c cs ops ((i, o) :: rest) k E hp := by
 intro a w ho hi hh
 simp only [rgp, wantedE_spec hw ho.1, if_true, hc, stepC]
 exact wq_of_wp (h1 _ a w ho.1 hh _ fun v w' hi' hΦ => h v w'.heap hΦ (a.put o.dst v) w' ⟨ho.1.put v hf, (put_defers _ _ _).trans ho.2⟩ (hi.trans hi') rfl)
theorem XR_wa {i : Nat} {d : Tmp} {op : Op} {ty : TypeId} {pos : String} {af : Array Edge} {g : Option (Nat × Bool)} {rest : List (Nat × Oper)} {Φ : Value → Heap → Prop}
  (h1 : OpL c.P ⟨some d, op, ty, pos, af, g⟩ E hp Φ) (hc : cs i ⟨some d, op, ty, pos, af, g⟩ = .wild) (hf : Nat.blt d c.fn.ntmps = true) (hw : wantedE ops E ⟨some d, op, ty, pos, af, g⟩ = some true)
  (h : ∀ v hp', Φ v hp' → XR c cs ops rest k ((d, v) :: E) hp') : XR c cs ops ((i, ⟨some d, op, ty, pos, af, g⟩) :: rest) k E hp := XR_w hf hw hc h1 h
theorem XR_wn {i : Nat} {op : Op} {ty : TypeId} {pos : String} {af : Array Edge} {g : Option (Nat × Bool)} {rest : List (Nat × Oper)} {Φ : Value → Heap → Prop}
  (h1 : OpL c.P ⟨none, op, ty, pos, af, g⟩ E hp Φ) (hc : cs i ⟨none, op, ty, pos, af, g⟩ = .wild) (hw : wantedE ops E ⟨none, op, ty, pos, af, g⟩ = some true)
  (h : ∀ v hp', Φ v hp' → XR c cs ops rest k E hp') : XR c cs ops ((i, ⟨none, op, ty, pos, af, g⟩) :: rest) k E hp := XR_w rfl hw hc h1 h
theorem XR_g {i : Nat} {o : Oper} {rest : List (Nat × Oper)} {Φ : Value → Heap → Prop} (hf : fits c.fn.ntmps o.dst = true) (hw : wantedE ops E o = some true) (hc : cs i o = .grow) (h1 : OpL c.P o E hp Φ)
  (hx : ∀ v hp', Φ v hp' → Ext hp hp') (h : ∀ v hp', Φ v hp' → XR c cs ops rest k (E.putD o.dst v) hp') : XR c cs ops ((i, o) :: rest) k E hp := by
 intro a w ho hi hh
 simp only [rgp, wantedE_spec hw ho.1, if_true, hc, stepC]
 exact wp_NoQ (h1 _ a w ho.1 hh _ fun v w' hi' hΦ => ⟨by rw [hh]; exact hx v w'.heap hΦ, h v w'.heap hΦ (a.put o.dst v) w' ⟨ho.1.put v hf, (put_defers _ _ _).trans ho.2⟩ (hi.trans hi') rfl⟩)
theorem XR_ga {i : Nat} {d : Tmp} {op : Op} {ty : TypeId} {pos : String} {af : Array Edge} {g : Option (Nat × Bool)} {rest : List (Nat × Oper)} {Φ : Value → Heap → Prop}
  (h1 : OpL c.P ⟨some d, op, ty, pos, af, g⟩ E hp Φ) (hc : cs i ⟨some d, op, ty, pos, af, g⟩ = .grow) (hf : Nat.blt d c.fn.ntmps = true) (hw : wantedE ops E ⟨some d, op, ty, pos, af, g⟩ = some true)
  (hx : ∀ v hp', Φ v hp' → Ext hp hp') (h : ∀ v hp', Φ v hp' → XR c cs ops rest k ((d, v) :: E) hp') : XR c cs ops ((i, ⟨some d, op, ty, pos, af, g⟩) :: rest) k E hp := XR_g hf hw hc h1 hx h
end
attribute [irreducible] X XR
end Go.Bn
end
