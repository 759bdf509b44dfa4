/- Packed texts of a claim: what its theorem uses, joined. -/
import Derived.Test.YtoodeecmplpndaaGreatProg
import Derived.Test.YtoodeecmplpndaaGreatPkCdc10
section
namespace Go.Bn
open Go Proofs
theorem getD_lensW {ws : List Nat} {s : Nat} (h2 : ws.length ≤ 16000) (hs : s < ws.length) (hp : 0 < ws.getD s 0) : (lensW ws).getD s 0 ≠ 0 := by
 rw [lensW_get hs]
 have := lenW_pos (ws := ws) h2 (mem_syms.2 ⟨hs, hp⟩)
 omega
theorem foldW_mem : ∀ (ys : List Sy) (s : List Nat × List Nat × Nat) (y : Sy), s.1.length = 273 → s.2.1.length = 30 → y.a.num.toNat < 273 → y.b.num.toNat < 30 →
  ((y ∈ ys ∨ 0 < s.1.getD y.a.num.toNat 0) → 0 < (ys.foldl stepW s).1.getD y.a.num.toNat 0) ∧ ((y.m = true ∧ y ∈ ys ∨ 0 < s.2.1.getD y.b.num.toNat 0) → 0 < (ys.foldl stepW s).2.1.getD y.b.num.toNat 0) ∧ ((y.m = true ∧ y ∈ ys ∨ 0 < s.2.2) → 0 < (ys.foldl stepW s).2.2)
 | [], s, y, _, _, _, _ => ⟨fun h => h.resolve_left (by simp), fun h => h.resolve_left (by simp), fun h => h.resolve_left (by simp)⟩
 | z :: ys, s, y, h1, h2, h3, h4 => by
  rw [List.foldl_cons]
  obtain ⟨i1, i2, i3⟩ := foldW_mem ys (stepW s z) y (by simp only [stepW]; rw [addAt_length]; exact h1) (by simp only [stepW]; split; rw [addAt_length]; exact h2; exact h2) h3 h4
  refine ⟨fun h => i1 ?_, fun h => i2 ?_, fun h => i3 ?_⟩
  ·rcases h with h | h
   ·rcases List.mem_cons.1 h with rfl | h
    ·exact .inr (addAt_pos (by omega))
    ·exact .inl h
   ·exact .inr (Nat.lt_of_lt_of_le h (addAt_ge _ _ _))
  ·simp only [stepW]
   rcases h with ⟨hm, h⟩ | h
   ·rcases List.mem_cons.1 h with rfl | h
    ·rw [if_pos hm]; exact .inr (addAt_pos (by omega))
    ·exact .inl ⟨hm, h⟩
   ·refine .inr ?_
    split
    ·exact Nat.lt_of_lt_of_le h (addAt_ge _ _ _)
    ·exact h
  ·simp only [stepW]
   rcases h with ⟨hm, h⟩ | h
   ·rcases List.mem_cons.1 h with rfl | h
    ·rw [if_pos hm]; exact .inr (Nat.succ_pos _)
    ·exact .inl ⟨hm, h⟩
   ·refine .inr ?_
    split <;> omega
theorem lA_pos {ys : List Sy} {y : Sy} (hy : y ∈ ys) (h3 : y.a.num.toNat < 273) (h4 : y.b.num.toNat < 30) : (lA ys).getD y.a.num.toNat 0 ≠ 0 := by
 have hs : startW.1.length = 273 ∧ startW.2.1.length = 30 := by decide +kernel
 unfold lA
 exact getD_lensW (by rw [firstW_len]; decide) (by rw [firstW_len]; exact h3) ((foldW_mem ys startW y hs.1 hs.2 h3 h4).1 (.inl hy))
theorem lA_256 (ys : List Sy) : (lA ys).getD 256 0 ≠ 0 := by
 unfold lA
 exact getD_lensW (by rw [firstW_len]; decide) (by rw [firstW_len]; decide) (foldW_first ys)
theorem lB_pos {ys : List Sy} {y : Sy} (hy : y ∈ ys) (h3 : y.a.num.toNat < 273) (h4 : y.b.num.toNat < 30) (hm : y.m = true) : (lB ys).getD y.b.num.toNat 0 ≠ 0 := by
 have hs : startW.1.length = 273 ∧ startW.2.1.length = 30 := by decide +kernel
 obtain ⟨_, i2, i3⟩ := foldW_mem ys startW y hs.1 hs.2 h3 h4
 have h0 := i3 (.inl ⟨hm, hy⟩)
 unfold lB
 refine getD_lensW (by rw [secondW_len]; decide) (by rw [secondW_len]; exact h4) ?_
 unfold secondW
 rw [if_neg (by unfold foldW; omega)]
 exact i2 (.inl ⟨hm, hy⟩)
theorem lA_len (ys : List Sy) : (lA ys).length = 273 := by unfold lA; rw [lensW_length, firstW_len]
theorem lB_len (ys : List Sy) : (lB ys).length = 30 := by unfold lB; rw [lensW_length, secondW_len]
theorem blockT_back {ts : List Tok} (hR : rightL ts) (hby : ∀ t ∈ ts, 0 ≤ t.byte ∧ t.byte < 256) (hd : distOK 0 ts) {most : Int} (hm : (sizeT ts : Int) ≤ most) (Z : List Bool) :
  blockT (blockB (ts.map splitY) ++ Z) most = (ts, sizeT ts, (blockB (ts.map splitY)).length, 0) := by
 obtain ⟨ys, hys⟩ : ∃ ys, ts.map splitY = ys := ⟨_, rfl⟩
 have hY : ∀ y ∈ ys, 0 ≤ y.a.num ∧ y.a.num < 273 ∧ 0 ≤ y.b.num ∧ y.b.num < 30 := fun y hy => by
  rw [← hys] at hy
  obtain ⟨t, ht, rfl⟩ := List.mem_map.1 hy
  obtain ⟨_, h1, h2, _, h3, h4⟩ := join_split (hR.2 t ht) (hby t ht)
  exact ⟨h1, h2, h3, h4⟩
 have oka := lA_ok ys
 have okb := lB_ok (ys := ys) (fun y hy => by have := hY y hy; omega)
 have hla := lA_len ys
 have hlb := lB_len ys
 have h256 := lA_256 ys
 have hT : ∀ t ∈ ts, t.right ∧ (0 ≤ t.byte ∧ t.byte < 256) ∧ (lA ys).getD (splitY t).a.num.toNat 0 ≠ 0 ∧ ((splitY t).m = true → (lB ys).getD (splitY t).b.num.toNat 0 ≠ 0) := fun t ht => by
  have hm : splitY t ∈ ys := by rw [← hys]; exact List.mem_map_of_mem ht
  obtain ⟨h1, h2, h3, h4⟩ := hY _ hm
  exact ⟨hR.2 t ht, hby t ht, lA_pos hm (by omega) (by omega), lB_pos hm (by omega) (by omega)⟩
 rw [hys]
 obtain ⟨la, hA⟩ : ∃ x, lA ys = x := ⟨_, rfl⟩
 obtain ⟨lb, hB⟩ : ∃ x, lB ys = x := ⟨_, rfl⟩
 have hbl : blockB ys = putR la ++ putR lb ++ ys.flatMap (syB la lb) ++ codeBits (val la 256) (lenAt la 256) := by unfold blockB; rw [hA, hB]
 rw [hA] at oka hla h256 hT
 rw [hB] at okb hlb hT
 obtain ⟨S, hS⟩ : ∃ S, blockB ys ++ Z = S := ⟨_, rfl⟩
 have hS1 : S = [] ++ (putR la ++ (putR lb ++ (ys.flatMap (syB la lb) ++ (codeBits (val la 256) (lenAt la 256) ++ Z)))) := by rw [← hS, hbl]; simp
 have hS2 : S = putR la ++ (putR lb ++ (ys.flatMap (syB la lb) ++ (codeBits (val la 256) (lenAt la 256) ++ Z))) := by rw [hS1]; rfl
 have hS3 : S = (putR la ++ putR lb) ++ (ys.flatMap (syB la lb) ++ (codeBits (val la 256) (lenAt la 256) ++ Z)) := by rw [hS2]; simp
 have t1 := takeR_putQ oka.2.2.1 oka.1 oka.2.1 [] (putR lb ++ (ys.flatMap (syB la lb) ++ (codeBits (val la 256) (lenAt la 256) ++ Z)))
 rw [← hS1, List.length_nil, Nat.zero_add] at t1
 have t2 := takeR_putQ okb.2.2.1 okb.1 okb.2.1 (putR la) (ys.flatMap (syB la lb) ++ (codeBits (val la 256) (lenAt la 256) ++ Z))
 rw [← hS2] at t2
 have hC : codesT S 0 = (0, la, lb, (putR la).length + (putR lb).length) := by
  unfold codesT
  rw [t1]
  simp only
  rw [t2]
  simp only
  rw [if_neg (by omega), if_neg (by omega), if_neg (by omega), if_neg (by rintro (h | h); exact h (rightC_cast oka); exact h (rightC_cast okb))]
 have hlen : S.length = (blockB ys).length + Z.length := by rw [← hS, List.length_append]
 have hyl : ys.length = ts.length := by rw [← hys, List.length_map]
 have hg := goB_back oka okb hla hlb h256 Z (most := most) ts hT (S.length + 1) 0 [] (putR la ++ putR lb) (by
  have : ∀ l : List Sy, (∀ y ∈ l, 1 ≤ (syB la lb y).length) → l.length ≤ (l.flatMap (syB la lb)).length := by
   intro l
   induction l with
   | nil => intro _; simp
   | cons y l ih =>
    intro h
    have h1 := h y List.mem_cons_self
    have h2 := ih fun z hz => h z (List.mem_cons_of_mem _ hz)
    rw [List.flatMap_cons, List.length_append, List.length_cons]; omega
  have h1 := this ys fun y hy => by
   rw [← hys] at hy
   obtain ⟨t, ht, rfl⟩ := List.mem_map.1 hy
   obtain ⟨_, _, g3, _⟩ := hT t ht
   have g := hY (splitY t) (by rw [← hys]; exact List.mem_map_of_mem ht)
   unfold syB symB
   rw [List.length_append, List.length_append, codeBits_length]
   have : lenAt la (splitY t).a.num = la.getD (splitY t).a.num.toNat 0 := by unfold lenAt; rw [if_neg (by omega)]
   omega
  rw [hS3]
  simp only [List.length_append]
  omega) hd (by rw [Nat.zero_add]; exact hm)
 rw [hys, ← hS3] at hg
 rw [hS]
 unfold blockT
 rw [hC]
 simp only
 rw [if_neg (by omega), ← List.length_append, hg, hbl]
 simp only [List.nil_append, Nat.zero_add, List.length_append, Prod.mk.injEq, and_true, true_and]
end Go.Bn
end

section
set_option linter.unusedVariables false
set_option linter.unusedSimpArgs false
namespace Go.Bn
def piecesF : Nat → List UInt8 → List UInt8 → List UInt8 × Int
  | 0, _, _ => ([], 2)
  | f + 1, l, out =>
    if l.length < 2 then ([], 2)
    else if l.length < 2 + leV (l.take 2) then ([], 2)
    else if leV (l.take 2) = 0 then (if 2 < l.length then ([], 3) else (out, 0))
    else piecesF f (l.drop (2 + leV (l.take 2))) (out ++ (l.drop 2).take (leV (l.take 2)))
def pieces (l : List UInt8) : List UInt8 × Int := piecesF (l.length + 1) l []
theorem piecesF_fuel : ∀ (f f' : Nat) (l out : List UInt8), l.length < f → l.length < f' → piecesF f l out = piecesF f' l out
 | 0, _, _, _, h, _ => by omega
 | _, 0, _, _, _, h => by omega
 | f + 1, f' + 1, l, out, h, h' => by
  simp only [piecesF]
  split
  ·rfl
  ·split
   ·rfl
   ·split
    ·rfl
    ·exact piecesF_fuel f f' _ _ (by rw [List.length_drop]; omega) (by rw [List.length_drop]; omega)
theorem piecesF_step {m : Nat} {l out : List UInt8} {a n : Nat} (hl : l.length = m) (h2 : a + 2 ≤ m) (hn : leV ((l.drop a).take 2) = n) (hle : a + 2 + n ≤ m) (h0 : n ≠ 0) :
  piecesF (m - a + 1) (l.drop a) out = piecesF (m - (a + 2 + n) + 1) (l.drop (a + 2 + n)) (out ++ (l.drop (a + 2)).take n) := by
 rw [piecesF, hn, if_neg (by rw [List.length_drop]; omega), if_neg (by rw [List.length_drop]; omega), if_neg h0, List.drop_drop, List.drop_drop, ← Nat.add_assoc]
 exact piecesF_fuel _ _ _ _ (by rw [List.length_drop]; omega) (by rw [List.length_drop]; omega)
theorem piecesF_short {m : Nat} {l out : List UInt8} {a : Nat} (hl : l.length = m) (h2 : m < a + 2) (ha : a ≤ m) : piecesF (m - a + 1) (l.drop a) out = ([], 2) := by
 rw [piecesF, if_pos (by rw [List.length_drop]; omega)]
theorem piecesF_long {m : Nat} {l out : List UInt8} {a n : Nat} (hl : l.length = m) (h2 : a + 2 ≤ m) (hn : leV ((l.drop a).take 2) = n) (hle : m < a + 2 + n) : piecesF (m - a + 1) (l.drop a) out = ([], 2) := by
 rw [piecesF, hn, if_neg (by rw [List.length_drop]; omega), if_pos (by rw [List.length_drop]; omega)]
theorem piecesF_more {m : Nat} {l out : List UInt8} {a : Nat} (hl : l.length = m) (h2 : a + 2 < m) (hn : leV ((l.drop a).take 2) = 0) : piecesF (m - a + 1) (l.drop a) out = ([], 3) := by
 rw [piecesF, hn, if_neg (by rw [List.length_drop]; omega), if_neg (by rw [List.length_drop]; omega), if_pos rfl, if_pos (by rw [List.length_drop]; omega)]
theorem piecesF_done {m : Nat} {l out : List UInt8} {a : Nat} (hl : l.length = m) (h2 : a + 2 = m) (hn : leV ((l.drop a).take 2) = 0) : piecesF (m - a + 1) (l.drop a) out = (out, 0) := by
 rw [piecesF, hn, if_neg (by rw [List.length_drop]; omega), if_neg (by rw [List.length_drop]; omega), if_pos rfl, if_neg (by rw [List.length_drop]; omega)]
theorem leV2 {l : List UInt8} {a : Nat} (h : a + 2 ≤ l.length) : leV ((l.drop a).take 2) = l[a].toNat + 256 * l[a + 1].toNat := by
 rw [List.drop_eq_getElem_cons (by omega), List.take_succ_cons, List.drop_eq_getElem_cons (by omega), List.take_succ_cons]
 simp [leV]
end Go.Bn
end

section
set_option linter.unusedVariables false
set_option linter.unusedSimpArgs false
namespace Go.Bn
abbrev Mv := Nat → List UInt8 → Nat × List UInt8 × Bool × Nat
structure MvOk (mv : Mv) (lim : Nat) (I : Nat → List UInt8 → Prop) : Prop where
  pre : ∀ a out, I a out → ∃ x, (mv a out).2.1 = out ++ x
  grow : ∀ a out, I a out → (mv a out).2.2.1 = false → out.length < (mv a out).2.1.length ∧ (mv a out).2.2.2 = 0 ∧ I (mv a out).1 (mv a out).2.1
  here : ∀ a out, I a out → out.length ≤ lim
  le : ∀ a out, I a out → (mv a out).2.1.length ≤ lim
inductive Giv (mv : Mv) : Nat → List UInt8 → List UInt8 → Nat → Prop
  | over {a : Nat} {out : List UInt8} (h : (mv a out).2.2.1 = true) : Giv mv a out (mv a out).2.1 (mv a out).2.2.2
  | more {a : Nat} {out gB : List UInt8} {gE : Nat} (h : (mv a out).2.2.1 = false) (g : Giv mv (mv a out).1 (mv a out).2.1 gB gE) : Giv mv a out gB gE
theorem Giv.all {mv : Mv} {lim : Nat} {I : Nat → List UInt8 → Prop} (ok : MvOk mv lim I) : ∀ (n a : Nat) (out : List UInt8), lim - out.length ≤ n → I a out → ∃ gB gE, Giv mv a out gB gE
 | n, a, out, hn, hI => by
  cases hh : (mv a out).2.2.1 with
  | true => exact ⟨_, _, .over hh⟩
  | false =>
   obtain ⟨h1, _, h2⟩ := ok.grow _ _ hI hh
   have h3 := ok.le _ _ hI
   cases n with
   | zero => omega
   | succ n =>
    obtain ⟨gB, gE, g⟩ := Giv.all ok n _ _ (by omega) h2
    exact ⟨gB, gE, .more hh g⟩
def copyT : Nat → Nat → List UInt8 → List UInt8
  | 0, _, out => out
  | n + 1, d, out => copyT n d (out ++ [out.getD (out.length - d) 0])
theorem copyT_length : ∀ (n d : Nat) (out : List UInt8), (copyT n d out).length = out.length + n
 | 0, _, _ => rfl
 | n + 1, d, out => by rw [copyT, copyT_length n d]; simp; omega
def expT (t : Tok) (out : List UInt8) : List UInt8 := if t.len = 0 then out ++ [UInt8.ofNat t.byte.toNat] else copyT t.len.toNat t.dist.toNat out
theorem expT_length {t : Tok} (h : t.right) (out : List UInt8) : (expT t out).length = out.length + t.size := by
 unfold Tok.right at h
 unfold expT Tok.size
 split
 ·rename_i h0; simp [h0]
 ·rename_i h0
  rw [if_neg h0] at h
  rw [copyT_length]; omega
end Go.Bn
end

section
set_option linter.unusedVariables false
set_option linter.unusedSimpArgs false
namespace Go.Bn
def depthM (lv : Int) : Nat := if lv ≤ 0 then 1 else if lv = 1 then 4 else if lv = 2 then 32 else 256
theorem depthM_ok (lv : Int) : 1 ≤ depthM lv ∧ depthM lv ≤ 256 := by unfold depthM; split <;> (try split) <;> (try split) <;> omega
def tokM (b : List UInt8) (lv : Int) (a : Nat) : Tok :=
  if (bestM b a (depthM lv)).1 = 0 ∨ (2 ≤ lv ∧ (bestM b a (depthM lv)).1 < 258 ∧ (bestM b a (depthM lv)).1 < (bestM b (a + 1) (depthM lv)).1) then ⟨((b.getD a 0).toNat : Int), 0, 0⟩
  else ⟨0, ((bestM b a (depthM lv)).1 : Int), ((bestM b a (depthM lv)).2 : Int)⟩
def splitF (b : List UInt8) (lv : Int) : Nat → Nat → List Tok
  | 0, _ => []
  | f + 1, a => if a < b.length then tokM b lv a :: splitF b lv f (a + (tokM b lv a).size) else []
def splitL (b : List UInt8) (lv : Int) : List Tok := splitF b lv b.length 0
theorem copyT_take {b : List UInt8} {d : Nat} (hd : 1 ≤ d) : ∀ (n a : Nat), a + n ≤ b.length → d ≤ a → (∀ i, i < n → b[a + i]? = b[a + i - d]?) → copyT n d (b.take a) = b.take (a + n)
 | 0, _, _, _, _ => rfl
 | n + 1, a, hl, ha, h => by
  rw [copyT, List.length_take, Nat.min_eq_left (by omega)]
  have h0 := h 0 (by omega)
  rw [Nat.add_zero] at h0
  have hg : (b.take a).getD (a - d) 0 = b[a]'(by omega) := by
   rw [List.getD_eq_getElem?_getD, List.getElem?_take, if_pos (by omega), ← h0, List.getElem?_eq_getElem (by omega)]; rfl
  rw [hg, ← List.take_succ_eq_append_getElem (by omega), copyT_take hd n (a + 1) (by omega) (by omega) (fun i hi => by
   have := h (i + 1) (by omega)
   rw [show a + 1 + i = a + (i + 1) by omega]; exact this)]
  congr 1; omega
theorem tokM_ok {b : List UInt8} {lv : Int} {a : Nat} (ha : a < b.length) : (tokM b lv a).right ∧ (0 ≤ (tokM b lv a).byte ∧ (tokM b lv a).byte < 256) ∧ (tokM b lv a).dist ≤ a ∧ a + (tokM b lv a).size ≤ b.length ∧ expT (tokM b lv a) (b.take a) = b.take (a + (tokM b lv a).size) := by
 have hb := (b.getD a 0).toNat_lt
 have hok := bestM_ok b a (depthM lv)
 unfold tokM
 split
 ·refine ⟨by unfold Tok.right; rw [if_pos rfl], ⟨by simp only; omega, by simp only; omega⟩, by simp only; omega, ?_, ?_⟩
  ·unfold Tok.size; simp only; omega
  ·unfold expT Tok.size
   rw [if_pos rfl]
   simp only [Int.toNat_natCast]
   rw [show max 1 (Int.toNat 0) = 1 from rfl, List.take_succ_eq_append_getElem ha, getD_at ha]
   congr 2
   exact UInt8.ofNat_toNat
 ·rename_i hn
  obtain ⟨M, hM⟩ : ∃ M, bestM b a (depthM lv) = M := ⟨_, rfl⟩
  rw [hM] at hok hn ⊢
  rcases hok with rfl | ⟨h3, he⟩
  ·exact absurd (.inl rfl) hn
  ·have hin := lenM_in (b := b) (a := a) (d := M.2) (by omega)
   have hle := lenM_le b a M.2
   have hf := lenM_fit b a M.2
   refine ⟨?_, ⟨by simp only; omega, by simp only; omega⟩, by simp only; omega, ?_, ?_⟩
   ·unfold Tok.right
    simp only
    rw [if_neg (by omega)]
    refine ⟨trivial, by omega, by omega, by omega, by omega⟩
   ·unfold Tok.size; simp only; omega
   ·unfold expT Tok.size
    simp only
    rw [if_neg (by omega)]
    simp only [Int.toNat_natCast]
    rw [Nat.max_eq_right (by omega)]
    exact copyT_take hin.1 M.1 a (by omega) hin.2.2.1 (fun i hi => (lenM_get (by omega)).1)
def expL (ts : List Tok) (out : List UInt8) : List UInt8 := ts.foldl (fun o t => expT t o) out
theorem sizeT_cons (t : Tok) (ts : List Tok) : sizeT (t :: ts) = t.size + sizeT ts := by simp [sizeT]
theorem Tok.size_pos (t : Tok) : 1 ≤ t.size := by unfold Tok.size; omega
theorem splitF_ok {b : List UInt8} {lv : Int} : ∀ (f a : Nat), a ≤ b.length → b.length - a ≤ f → (∀ t ∈ splitF b lv f a, t.right ∧ 0 ≤ t.byte ∧ t.byte < 256) ∧ distOK a (splitF b lv f a) ∧ a + sizeT (splitF b lv f a) = b.length ∧ (splitF b lv f a).length ≤ b.length - a ∧ expL (splitF b lv f a) (b.take a) = b
 | 0, a, ha, hf => by
  have : a = b.length := by omega
  subst this
  rw [splitF]
  refine ⟨by simp, trivial, by simp [sizeT], by simp, by simp [expL]⟩
 | f + 1, a, ha, hf => by
  rw [splitF]
  split
  ·rename_i hlt
   obtain ⟨h1, h2, h3, h4, h5⟩ := tokM_ok (lv := lv) hlt
   have hp := Tok.size_pos (tokM b lv a)
   obtain ⟨i1, i2, i3, i4, i5⟩ := splitF_ok (lv := lv) f (a + (tokM b lv a).size) h4 (by omega)
   obtain ⟨T, hT⟩ : ∃ T, splitF b lv f (a + (tokM b lv a).size) = T := ⟨_, rfl⟩
   rw [hT] at i1 i2 i3 i4 i5 ⊢
   refine ⟨fun t ht => ?_, ⟨h3, i2⟩, ?_, ?_, ?_⟩
   ·rcases List.mem_cons.1 ht with rfl | ht
    ·exact ⟨h1, h2⟩
    ·exact i1 t ht
   ·rw [sizeT_cons]; omega
   ·rw [List.length_cons]; omega
   ·unfold expL at i5 ⊢
    rw [List.foldl_cons, h5]; exact i5
  ·have : a = b.length := by omega
   subst this
   refine ⟨by simp, trivial, by simp [sizeT], by simp, by simp [expL]⟩
theorem splitL_ok {b : List UInt8} (lv : Int) (hb : b.length ≤ 65536) : rightL (splitL b lv) ∧ (∀ t ∈ splitL b lv, 0 ≤ t.byte ∧ t.byte < 256) ∧ distOK 0 (splitL b lv) ∧ sizeT (splitL b lv) = b.length ∧ (splitL b lv).length ≤ b.length ∧ expL (splitL b lv) [] = b := by
 obtain ⟨h1, h2, h3, h4, h5⟩ := splitF_ok (b := b) (lv := lv) b.length 0 (Nat.zero_le _) (by omega)
 refine ⟨⟨by unfold splitL; omega, fun t ht => (h1 t ht).1⟩, fun t ht => (h1 t ht).2, h2, by unfold splitL; omega, by unfold splitL; omega, h5⟩
theorem splitF_fuel {b : List UInt8} {lv : Int} : ∀ (f g a : Nat), a ≤ b.length → b.length - a ≤ f → b.length - a ≤ g → splitF b lv f a = splitF b lv g a
 | 0, 0, _, _, _, _ => rfl
 | 0, g + 1, a, _, h, _ => by rw [splitF, splitF, if_neg (by omega)]
 | f + 1, 0, a, _, _, h => by rw [splitF, splitF, if_neg (by omega)]
 | f + 1, g + 1, a, ha, h, h' => by
  rw [splitF, splitF]
  split
  ·rename_i hlt
   obtain ⟨_, _, _, h4, _⟩ := tokM_ok (lv := lv) hlt
   have hp := Tok.size_pos (tokM b lv a)
   rw [splitF_fuel f g _ h4 (by omega) (by omega)]
  ·rfl
end Go.Bn
end

section
namespace Go.Bn
open Go Proofs
theorem goB_short {la lb : List Nat} (oka : lensOK la) (okb : lensOK lb) (h273 : la.length = 273) (h30 : lb.length = 30) (Z : List Bool) {most : Int} : ∀ (ts : List Tok), (∀ t ∈ ts, t.right ∧ (0 ≤ t.byte ∧ t.byte < 256) ∧ la.getD (splitY t).a.num.toNat 0 ≠ 0 ∧ ((splitY t).m = true → lb.getD (splitY t).b.num.toNat 0 ≠ 0)) → ∀ (f sz : Nat) (acc : List Tok) (Q : List Bool), ts.length < f → distOK sz ts → (sz : Int) ≤ most → most < ((sz + sizeT ts : Nat) : Int) →
  goB la lb (Q ++ ((ts.map splitY).flatMap (syB la lb) ++ Z)) most f Q.length sz acc = ([], 0, 0, 5)
 | [], _, f, sz, acc, Q, hf, _, h1, h2 => by simp [sizeT] at h2; omega
 | t :: ts, h, f, sz, acc, Q, hf, hd, hm1, hm => by
  obtain ⟨g, rfl⟩ : ∃ g, f = g + 1 := ⟨f - 1, by simp at hf; omega⟩
  obtain ⟨h1, h2, h3, h4⟩ := h t List.mem_cons_self
  obtain ⟨d1, d2⟩ := hd
  have hst : sizeT (t :: ts) = t.size + sizeT ts := by simp [sizeT]
  rw [hst] at hm
  rw [List.map_cons, List.flatMap_cons, List.append_assoc]
  have hn := nextT_back oka okb h273 h30 h1 h2 h3 h4 Q ((ts.map splitY).flatMap (syB la lb) ++ Z)
  rw [goB, hn]
  simp only
  rw [if_neg (by simp), if_neg (by omega)]
  split
  ·rfl
  ·have ih := goB_short oka okb h273 h30 Z (most := most) ts (fun x hx => h x (List.mem_cons_of_mem _ hx)) g (sz + t.size) (acc ++ [t]) (Q ++ syB la lb (splitY t)) (by simp at hf; omega) d2 (by omega) (by omega)
   rw [List.append_assoc, List.length_append] at ih
   exact ih
theorem blockT_short {ts : List Tok} (hR : rightL ts) (hby : ∀ t ∈ ts, 0 ≤ t.byte ∧ t.byte < 256) (hd : distOK 0 ts) {most : Int} (h0 : 0 ≤ most) (hm : most < (sizeT ts : Int)) (Z : List Bool) :
  blockT (blockB (ts.map splitY) ++ Z) most = ([], 0, 0, 5) := by
 obtain ⟨ys, hys⟩ : ∃ ys, ts.map splitY = ys := ⟨_, rfl⟩
 have hY : ∀ y ∈ ys, 0 ≤ y.a.num ∧ y.a.num < 273 ∧ 0 ≤ y.b.num ∧ y.b.num < 30 := fun y hy => by
  rw [← hys] at hy
  obtain ⟨t, ht, rfl⟩ := List.mem_map.1 hy
  obtain ⟨_, h1, h2, _, h3, h4⟩ := join_split (hR.2 t ht) (hby t ht)
  exact ⟨h1, h2, h3, h4⟩
 have oka := lA_ok ys
 have okb := lB_ok (ys := ys) (fun y hy => by have := hY y hy; omega)
 have hla := lA_len ys
 have hlb := lB_len ys
 have hT : ∀ t ∈ ts, t.right ∧ (0 ≤ t.byte ∧ t.byte < 256) ∧ (lA ys).getD (splitY t).a.num.toNat 0 ≠ 0 ∧ ((splitY t).m = true → (lB ys).getD (splitY t).b.num.toNat 0 ≠ 0) := fun t ht => by
  have hm : splitY t ∈ ys := by rw [← hys]; exact List.mem_map_of_mem ht
  obtain ⟨h1, h2, h3, h4⟩ := hY _ hm
  exact ⟨hR.2 t ht, hby t ht, lA_pos hm (by omega) (by omega), lB_pos hm (by omega) (by omega)⟩
 rw [hys]
 obtain ⟨la, hA⟩ : ∃ x, lA ys = x := ⟨_, rfl⟩
 obtain ⟨lb, hB⟩ : ∃ x, lB ys = x := ⟨_, rfl⟩
 have hbl : blockB ys = putR la ++ putR lb ++ ys.flatMap (syB la lb) ++ codeBits (val la 256) (lenAt la 256) := by unfold blockB; rw [hA, hB]
 rw [hA] at oka hla hT
 rw [hB] at okb hlb hT
 obtain ⟨Y, hYe⟩ : ∃ Y, codeBits (val la 256) (lenAt la 256) ++ Z = Y := ⟨_, rfl⟩
 obtain ⟨S, hS⟩ : ∃ S, blockB ys ++ Z = S := ⟨_, rfl⟩
 have hS1 : S = [] ++ (putR la ++ (putR lb ++ (ys.flatMap (syB la lb) ++ Y))) := by rw [← hS, hbl, ← hYe]; simp
 have hS2 : S = putR la ++ (putR lb ++ (ys.flatMap (syB la lb) ++ Y)) := by rw [hS1]; rfl
 have hS3 : S = (putR la ++ putR lb) ++ (ys.flatMap (syB la lb) ++ Y) := by rw [hS2]; simp
 have t1 := takeR_putQ oka.2.2.1 oka.1 oka.2.1 [] (putR lb ++ (ys.flatMap (syB la lb) ++ Y))
 rw [← hS1, List.length_nil, Nat.zero_add] at t1
 have t2 := takeR_putQ okb.2.2.1 okb.1 okb.2.1 (putR la) (ys.flatMap (syB la lb) ++ Y)
 rw [← hS2] at t2
 have hC : codesT S 0 = (0, la, lb, (putR la).length + (putR lb).length) := by
  unfold codesT
  rw [t1]
  simp only
  rw [t2]
  simp only
  rw [if_neg (by omega), if_neg (by omega), if_neg (by omega), if_neg (by rintro (h | h); exact h (rightC_cast oka); exact h (rightC_cast okb))]
 have hg := goB_short oka okb hla hlb Y (most := most) ts hT (S.length + 1) 0 [] (putR la ++ putR lb) (by
  have : ∀ l : List Sy, (∀ y ∈ l, 1 ≤ (syB la lb y).length) → l.length ≤ (l.flatMap (syB la lb)).length := by
   intro l
   induction l with
   | nil => intro _; simp
   | cons y l ih =>
    intro h
    have h1 := h y List.mem_cons_self
    have h2 := ih fun z hz => h z (List.mem_cons_of_mem _ hz)
    rw [List.flatMap_cons, List.length_append, List.length_cons]; omega
  have h1 := this ys fun y hy => by
   rw [← hys] at hy
   obtain ⟨t, ht, rfl⟩ := List.mem_map.1 hy
   obtain ⟨_, _, g3, _⟩ := hT t ht
   have g := hY (splitY t) (by rw [← hys]; exact List.mem_map_of_mem ht)
   unfold syB symB
   rw [List.length_append, List.length_append, codeBits_length]
   have : lenAt la (splitY t).a.num = la.getD (splitY t).a.num.toNat 0 := by unfold lenAt; rw [if_neg (by omega)]
   omega
  have hyl : ys.length = ts.length := by rw [← hys, List.length_map]
  rw [hS3]
  simp only [List.length_append]
  omega) hd h0 (by omega)
 rw [hys, ← hS3] at hg
 rw [hS]
 unfold blockT
 rw [hC]
 simp only
 rw [if_neg (by omega), ← List.length_append, hg]
end Go.Bn
end

section
set_option linter.unusedVariables false
set_option linter.unusedSimpArgs false
namespace Go.Bn
def chunkF : Nat → List UInt8 → List (List UInt8)
  | 0, _ => []
  | f + 1, l => if l = [] then [] else l.take 65535 :: chunkF f (l.drop 65535)
def chunks (l : List UInt8) : List (List UInt8) := chunkF l.length l
theorem chunkF_fuel : ∀ (f f' : Nat) (l : List UInt8), l.length ≤ f → l.length ≤ f' → chunkF f l = chunkF f' l
 | 0, f', l, h, _ => by
  obtain rfl : l = [] := List.eq_nil_of_length_eq_zero (by omega)
  cases f' with
  | zero => rfl
  | succ f' => simp [chunkF]
 | f + 1, 0, l, _, h => by
  obtain rfl : l = [] := List.eq_nil_of_length_eq_zero (by omega)
  simp [chunkF]
 | f + 1, f' + 1, l, h, h' => by
  simp only [chunkF]
  split
  ·rfl
  ·rename_i hl
   have : 0 < l.length := List.length_pos_iff.2 hl
   rw [chunkF_fuel f f' _ (by rw [List.length_drop]; omega) (by rw [List.length_drop]; omega)]
theorem chunks_nil : chunks [] = [] := rfl
theorem chunks_cons {l : List UInt8} (h : 0 < l.length) : chunks l = l.take 65535 :: chunks (l.drop 65535) := by
 unfold chunks
 cases l with
 | nil => simp at h
 | cons a r =>
  rw [List.length_cons, chunkF, if_neg (by simp)]
  congr 1
  exact chunkF_fuel _ _ _ (by simp) (by simp)
theorem chunks_ok : ∀ (n : Nat) (l : List UInt8), l.length ≤ n → (chunks l).flatten = l ∧ ∀ x ∈ chunks l, 0 < x.length ∧ x.length ≤ 65535
 | 0, l, h => by
  obtain rfl : l = [] := List.eq_nil_of_length_eq_zero (by omega)
  exact ⟨rfl, by simp [chunks_nil]⟩
 | n + 1, l, h => by
  rcases Nat.eq_zero_or_pos l.length with h0 | h0
  ·obtain rfl : l = [] := List.eq_nil_of_length_eq_zero h0
   exact ⟨rfl, by simp [chunks_nil]⟩
  ·obtain ⟨h1, h2⟩ := chunks_ok n (l.drop 65535) (by rw [List.length_drop]; omega)
   rw [chunks_cons h0]
   refine ⟨by rw [List.flatten_cons, h1, List.take_append_drop], fun x hx => ?_⟩
   rcases List.mem_cons.1 hx with rfl | hx
   ·rw [List.length_take]; omega
   ·exact h2 x hx
def pieceS (s : List (List UInt8)) : List UInt8 := s.flatMap fun x => leB 2 x.length ++ x
def pieceB (l : List UInt8) : List UInt8 := pieceS (chunks l)
theorem pieceS_snoc (s : List (List UInt8)) (x : List UInt8) : pieceS (s ++ [x]) = pieceS s ++ leB 2 x.length ++ x := by simp [pieceS]
theorem pieceS_len : ∀ (s : List (List UInt8)), (pieceS s).length = 2 * s.length + s.flatten.length
 | [] => rfl
 | x :: r => by
  have ih := pieceS_len r
  simp only [pieceS, List.flatMap_cons, List.length_append, leB_length, List.length_cons, List.flatten_cons] at ih ⊢
  omega
theorem pieceS_append (s t : List (List UInt8)) : pieceS (s ++ t) = pieceS s ++ pieceS t := by simp [pieceS]
def chunksL (ls : List (List UInt8)) : List (List UInt8) := ls.flatMap chunks
theorem chunksL_ok : ∀ (ls : List (List UInt8)), (chunksL ls).flatten = ls.flatten ∧ ∀ x ∈ chunksL ls, 0 < x.length ∧ x.length ≤ 65535
 | [] => ⟨rfl, by simp [chunksL]⟩
 | l :: r => by
  obtain ⟨h1, h2⟩ := chunksL_ok r
  obtain ⟨k1, k2⟩ := chunks_ok l.length l (Nat.le_refl _)
  have e : chunksL (l :: r) = chunks l ++ chunksL r := by simp [chunksL]
  rw [e]
  refine ⟨by rw [List.flatten_append, k1, h1, List.flatten_cons], fun x hx => ?_⟩
  rcases List.mem_append.1 hx with hx | hx
  ·exact k2 x hx
  ·exact h2 x hx
theorem flatten_len_ge : ∀ {s : List (List UInt8)}, (∀ x ∈ s, 0 < x.length) → s.length ≤ s.flatten.length
 | [], _ => by simp
 | x :: r, h => by
  have ih := flatten_len_ge (s := r) fun y hy => h y (List.mem_cons_of_mem _ hy)
  have := h x List.mem_cons_self
  simp only [List.length_cons, List.flatten_cons, List.length_append]; omega
def streamB (ls : List (List UInt8)) : List UInt8 := pieceS (chunksL ls) ++ leB 2 0
def streamN : List (List UInt8) → Nat → List UInt8 → List UInt8 × Int
  | [], _, out => (out ++ leB 2 0, 0)
  | b :: r, n, out => if 65536 < n + b.length then ([], 5) else streamN r (n + b.length) (out ++ pieceB b)
theorem streamN_ok : ∀ (ls : List (List UInt8)) (n : Nat) (out : List UInt8), n + ls.flatten.length ≤ 65536 → streamN ls n out = (out ++ streamB ls, 0)
 | [], n, out, _ => by simp [streamN, streamB, chunksL, pieceS]
 | b :: r, n, out, h => by
  simp only [List.flatten_cons, List.length_append] at h
  rw [streamN, if_neg (by omega), streamN_ok r _ _ (by omega)]
  simp [streamB, chunksL, pieceS_append, pieceB]
theorem streamB_len (ls : List (List UInt8)) : (streamB ls).length ≤ 3 * ls.flatten.length + 2 := by
 obtain ⟨h1, h2⟩ := chunksL_ok ls
 have h3 := flatten_len_ge (s := chunksL ls) fun x hx => (h2 x hx).1
 rw [h1] at h3
 simp only [streamB, List.length_append, pieceS_len, h1, leB_length]; omega
theorem pieces_head {x z : List UInt8} (h : x.length < 65536) : leV ((leB 2 x.length ++ x ++ z).take 2) = x.length ∧ (leB 2 x.length ++ x ++ z).drop (2 + x.length) = z ∧ ((leB 2 x.length ++ x ++ z).drop 2).take x.length = x := by
 have h2 : (leB 2 x.length).length = 2 := leB_length _ _
 refine ⟨?_, ?_, ?_⟩
 ·rw [List.append_assoc, List.take_left' h2, leV_leB]; exact Nat.mod_eq_of_lt h
 ·rw [List.drop_left' (by rw [List.length_append, h2])]
 ·rw [List.append_assoc, List.drop_left' h2, List.take_left' rfl]
theorem pieces_S : ∀ (s : List (List UInt8)), (∀ x ∈ s, 0 < x.length ∧ x.length ≤ 65535) → ∀ (out : List UInt8) (f : Nat), (pieceS s ++ leB 2 0).length < f → piecesF f (pieceS s ++ leB 2 0) out = (out ++ s.flatten, 0)
 | [], _, out, 0, h => by omega
 | [], _, out, f + 1, _ => by
  have e : pieceS [] ++ leB 2 0 = [0, 0] := rfl
  rw [e]; simp [piecesF, leV]
 | x :: r, hs, out, 0, h => by omega
 | x :: r, hs, out, f + 1, h => by
  obtain ⟨h0, h1⟩ := hs x List.mem_cons_self
  have e : pieceS (x :: r) ++ leB 2 0 = leB 2 x.length ++ x ++ (pieceS r ++ leB 2 0) := by simp [pieceS]
  rw [e] at h ⊢
  obtain ⟨e1, e2, e3⟩ := pieces_head (x := x) (z := pieceS r ++ leB 2 0) (by omega)
  rw [piecesF, e1, if_neg (by simp only [List.length_append, leB_length]; omega), if_neg (by simp only [List.length_append, leB_length]; omega), if_neg (by omega), e2, e3]
  rw [pieces_S r (fun y hy => hs y (List.mem_cons_of_mem _ hy)) _ f (by simp only [List.length_append, leB_length] at h ⊢; omega)]
  simp
theorem pieces_stream (ls : List (List UInt8)) : pieces (streamB ls) = (ls.flatten, 0) := by
 obtain ⟨h1, h2⟩ := chunksL_ok ls
 unfold pieces streamB
 rw [pieces_S _ h2 _ _ (Nat.lt_succ_self _), h1]; rfl
end Go.Bn
end

section
set_option linter.unusedVariables false
set_option linter.unusedSimpArgs false
namespace Go.Bn
theorem distOK_snoc : ∀ {ts : List Tok} {sz : Nat} {t : Tok}, distOK sz ts → t.dist ≤ ((sz + sizeT ts : Nat) : Int) → distOK sz (ts ++ [t])
 | [], sz, t, _, h => ⟨by simpa [sizeT] using h, trivial⟩
 | x :: ts, sz, t, ⟨h1, h2⟩, h => by
  rw [sizeT_cons] at h
  exact ⟨h1, distOK_snoc h2 (by rw [show sz + x.size + sizeT ts = sz + (x.size + sizeT ts) by omega]; exact h)⟩
theorem sizeT_snoc (ts : List Tok) (t : Tok) : sizeT (ts ++ [t]) = sizeT ts + t.size := by simp [sizeT]
structure TokOk (ts : List Tok) : Prop where
  ok : ∀ t ∈ ts, t.right ∧ 0 ≤ t.byte ∧ t.byte < 256
  dist : distOK 0 ts
theorem TokOk.snoc {ts : List Tok} {t : Tok} (h : TokOk ts) (h1 : t.right) (h2 : 0 ≤ t.byte ∧ t.byte < 256) (h3 : t.dist ≤ (sizeT ts : Int)) : TokOk (ts ++ [t]) :=
 ⟨fun x hx => by
  rcases List.mem_append.1 hx with hx | hx
  ·exact h.ok x hx
  ·rw [List.mem_singleton] at hx; subst hx; exact ⟨h1, h2⟩, distOK_snoc h.dist (by rw [Nat.zero_add]; exact h3)⟩
theorem expL_snoc (ts : List Tok) (t : Tok) (out : List UInt8) : expL (ts ++ [t]) out = expT t (expL ts out) := by simp [expL]
theorem expL_length : ∀ {ts : List Tok} (out : List UInt8), (∀ t ∈ ts, t.right) → (expL ts out).length = out.length + sizeT ts
 | [], out, _ => by simp [expL, sizeT]
 | t :: ts, out, h => by
  have ih := expL_length (ts := ts) (expT t out) fun x hx => h x (List.mem_cons_of_mem _ hx)
  have h1 := expT_length (h t List.mem_cons_self) out
  rw [sizeT_cons]
  show (expL ts (expT t out)).length = _
  omega
theorem goB_ok {la lb : List Nat} {bs : List Bool} {most : Int} (oka : lensOK la) (okb : lensOK lb) : ∀ (f a sz : Nat) (acc : List Tok), a ≤ bs.length → TokOk acc → sizeT acc = sz → (sz : Int) ≤ most → (goB la lb bs most f a sz acc).2.2.2 = 0 →
  TokOk (goB la lb bs most f a sz acc).1 ∧ sizeT (goB la lb bs most f a sz acc).1 = (goB la lb bs most f a sz acc).2.1 ∧ ((goB la lb bs most f a sz acc).2.1 : Int) ≤ most ∧ (goB la lb bs most f a sz acc).2.2.1 ≤ bs.length ∧ (goB la lb bs most f a sz acc).1.length ≤ acc.length + f
 | 0, a, sz, acc, _, _, _, _, h => by cases h
 | f + 1, a, sz, acc, ha, hA, hs, hm, h => by
  have hn := nextT_at (la := la) (lb := lb) (bs := bs) (a := a) oka okb ha
  revert h
  rw [goB]
  obtain ⟨N, hN⟩ : ∃ N, nextT la lb bs a = N := ⟨_, rfl⟩
  rw [hN] at hn ⊢
  by_cases h1 : N.2.2.1 = true
  ·rw [if_pos h1]
   by_cases h2 : N.2.2.2 ≠ 0
   ·rw [if_pos h2]; intro h; exact absurd h h2
   ·rw [if_neg h2]
    intro _
    exact ⟨hA, hs, hm, hn.2.1, by simp⟩
  ·rw [if_neg h1]
   by_cases h2 : (sz : Int) < N.1.dist
   ·rw [if_pos h2]; intro h; cases h
   ·rw [if_neg h2]
    by_cases h3 : most - sz < N.1.size
    ·rw [if_pos h3]; intro h; cases h
    ·rw [if_neg h3]
     intro h
     obtain ⟨k1, _, k3, k4⟩ := hn.2.2 (by simpa using h1)
     obtain ⟨g1, g2, g3, g4, g5⟩ := goB_ok oka okb f N.2.1 (sz + N.1.size) (acc ++ [N.1]) hn.2.1 (hA.snoc k3 k4 (by omega)) (by rw [sizeT_snoc]; omega) (by omega) h
     refine ⟨g1, g2, g3, g4, ?_⟩
     rw [List.length_append, List.length_singleton] at g5
     omega
theorem blockT_ok {bs : List Bool} {most : Int} (h0 : 0 ≤ most) (h : (blockT bs most).2.2.2 = 0) : TokOk (blockT bs most).1 ∧ sizeT (blockT bs most).1 = (blockT bs most).2.1 ∧ ((blockT bs most).2.1 : Int) ≤ most ∧ (blockT bs most).2.2.1 ≤ bs.length ∧ (blockT bs most).1.length ≤ bs.length + 1 := by
 revert h
 unfold blockT
 by_cases hc : (codesT bs 0).1 ≠ 0
 ·rw [if_pos hc]; intro h; exact absurd h hc
 ·rw [if_neg hc]
  intro h
  obtain ⟨oka, okb, _, _⟩ := codesT_ok (bs := bs) (a := 0) (by omega)
  have := goB_ok oka okb (bs.length + 1) _ 0 [] (codesT_le (by omega)) ⟨by simp, trivial⟩ rfl (by omega) h
  simpa using this
noncomputable def unpackU (mt : Int) (l : List UInt8) (size : Int) : List UInt8 × Nat :=
  if mt < 0 ∨ 2 < mt then ([], 1)
  else if size < 0 ∨ 65536 < size then ([], 5)
  else if mt = 1 then
    if (blockT (bitsB l) size).2.2.2 ≠ 0 then ([], (blockT (bitsB l) size).2.2.2)
    else if ((blockT (bitsB l) size).2.1 : Int) ≠ size then ([], 5)
    else if 8 ≤ (bitsB l).length - (blockT (bitsB l) size).2.2.1 ∨ numB (bitsB l) (blockT (bitsB l) size).2.2.1 8 ≠ 0 then ([], 3)
    else (expL (blockT (bitsB l) size).1 [], 0)
  else if mt = 2 then
    if (pieces l).2 ≠ 0 then ([], (pieces l).2.toNat)
    else if ((pieces l).1.length : Int) ≠ size then ([], 5)
    else ((pieces l).1, 0)
  else if (l.length : Int) ≠ size then ([], 5) else (l, 0)
end Go.Bn
end

section
set_option linter.unusedVariables false
set_option linter.unusedSimpArgs false
set_option maxHeartbeats 4000000
set_option maxRecDepth 20000
namespace Go.Bn
open Go Proofs
@[reducible] def clsV (c : Kls) : List Value := [.int .i64 c.num, .int .i64 c.bits, .int .u32 c.ext]
@[reducible] def tokV (t : Tok) : List Value := [.int .u8 t.byte, .int .i64 t.len, .int .i64 t.dist]
@[reducible] def syV (r : Sy) : List Value := [.int .i64 r.a.num, .int .i64 r.a.bits, .int .u32 r.a.ext, .int .i64 r.b.num, .int .i64 r.b.bits, .int .u32 r.b.ext, .bool r.m]
theorem clsV_one (d : Kls) : ∀ u ∈ clsV d, Value.one u = true := by
 intro u hu; simp [clsV] at hu; rcases hu with rfl | rfl | rfl <;> rfl
theorem tokV_one (d : Tok) : ∀ u ∈ tokV d, Value.one u = true := by
 intro u hu; simp [tokV] at hu; rcases hu with rfl | rfl | rfl <;> rfl
theorem syV_one (d : Sy) : ∀ u ∈ syV d, Value.one u = true := by
 intro u hu; simp [syV] at hu; rcases hu with rfl | rfl | rfl | rfl | rfl | rfl | rfl <;> rfl
theorem eqL_sy (a b : Sy) : eqL (syV a) (syV b) = decide (a = b) := by
 obtain ⟨⟨_, _, _⟩, ⟨_, _, _⟩, _⟩ := a
 obtain ⟨⟨_, _, _⟩, ⟨_, _, _⟩, _⟩ := b
 rw [Bool.eq_iff_iff]; simp [eqL, eqv, and_assoc]
def lenTab : List UInt8 := (List.range 256).map fun i => UInt8.ofNat (lenN i)
theorem lenTab_get {i : Nat} (h : i < 256) : (ByteArray.mk lenTab.toArray)[i]? = some (UInt8.ofNat (lenN i)) := by
 have hs : (ByteArray.mk lenTab.toArray).size = 256 := by simp [ByteArray.size, lenTab]
 have : (ByteArray.mk lenTab.toArray)[i]? = lenTab[i]? := by
  rw [getElem?_pos _ i (by rw [hs]; exact h)]
  rw [List.getElem?_eq_getElem (by simp [lenTab]; omega)]
  rfl
 rw [this]
 simp [lenTab, h]
theorem lenN_lt {v k : Nat} (h : v < 2 ^ k) : lenN v ≤ k := by
 unfold lenN
 split
 ·omega
 ·rename_i h0; have := (Nat.log2_lt h0).2 h; omega
theorem len_shift {v : Nat} (h : 256 ≤ v) : 8 + lenN (v / 256) = lenN v := by
 have h1 : v / 256 ≠ 0 := by omega
 have h2 : v ≠ 0 := by omega
 unfold lenN
 rw [if_neg h1, if_neg h2]
 have e : Nat.log2 (v / 256) + 8 = Nat.log2 v := by
  apply Eq.symm
  rw [Nat.log2_eq_iff h2]
  have a1 := Nat.log2_self_le h1
  have a2 : v / 256 < 2 ^ (Nat.log2 (v / 256) + 1) := Nat.lt_log2_self
  have p1 : 2 ^ (Nat.log2 (v / 256) + 8) = 2 ^ Nat.log2 (v / 256) * 256 := Nat.pow_add _ _ 8
  have p2 : 2 ^ (Nat.log2 (v / 256) + 8 + 1) = 2 ^ (Nat.log2 (v / 256) + 1) * 256 := by
   rw [show Nat.log2 (v / 256) + 8 + 1 = (Nat.log2 (v / 256) + 1) + 8 by omega]; exact Nat.pow_add _ _ 8
  rw [p1, p2]
  constructor <;> omega
 omega
theorem len64_spec {v : Nat} (hv : v < 65536) (h0 : Heap) : Ret Tryz.prog 163 [.int .u64 (v : Int)] h0 fun r h' => r = .int .i64 (lenN v : Nat) ∧ h0 = h' := by
 refine ret_of_X Tryz.func163 rfl rfl fun w0 hw0 => ?_
 simp only [argE, Nat.zero_add, Nat.reduceAdd]
 refine X_seq (X_reg (XA rfl rfl rfl (XR_nil (X_seq (X_seq (X_reg (XV rfl rfl rfl ?_)))))))
 refine XR_a (op_geq rfl rfl) rfl rfl ?_
 refine XR_as (.bool false) (congrArg Value.bool (decide_eq_false (by omega))) ?_
 refine XR_nil (X_else rfl (X_skip (X_seq (X_seq (X_reg (XV rfl rfl rfl ?_))))))
 refine XR_a (op_geq rfl rfl) rfl rfl ?_
 refine XR_as (.bool false) (congrArg Value.bool (decide_eq_false (by omega))) ?_
 refine XR_nil (X_else rfl (X_skip (X_seq (X_seq (X_reg (XV rfl rfl rfl ?_))))))
 refine XR_a (op_geq rfl rfl) rfl rfl ?_
 refine XR_nil ?_
 refine X_if rfl (fun h => ?_) (fun h => ?_)
 ·refine X_seq (X_reg (XV rfl rfl rfl ?_))
  first | refine XR_a (op_shrC 8 rfl rfl (by decide)) rfl rfl ?_ | refine XR_a (op_shrN 8 rfl rfl (by decide)) rfl rfl ?_
  refine XA rfl rfl rfl (XR_nil (X_reg (XV rfl rfl rfl ?_)))
  first | refine XR_a (op_addN (n := 8) rfl rfl (by simp only [inK]; omega)) rfl rfl ?_ | refine XR_a (op_addI rfl rfl (by simp only [inK]; omega)) rfl rfl ?_ | refine XR_a (op_add rfl rfl) rfl rfl ?_
  refine XA rfl rfl rfl (XR_nil (X_seq (X_reg (XV rfl rfl rfl (XV rfl rfl rfl ?_)))))
  first | refine XR_a (op_convI rfl rfl (by simp only [inK]; omega)) rfl rfl ?_ | refine XR_a (op_convU rfl rfl rfl) rfl rfl ?_ | refine XR_a (op_conv rfl rfl) rfl rfl ?_
  have hi : v / 2 ^ 8 < 256 := by omega
  have hl := lenN_lt (v := v / 2 ^ 8) (k := 8) hi
  have hs := len_shift (v := v) (by omega)
  rw [show (256 : Nat) = 2 ^ 8 from rfl] at hs
  generalize v / 2 ^ 8 = u at *
  refine XR_a (op_indexS (s := ByteArray.mk lenTab.toArray) (i := u) (by kernel_rfl) rfl rfl (lenTab_get hi)) rfl rfl ?_
  rw [show (UInt8.ofNat (lenN u)).toNat = lenN u by simp; omega]
  first | refine XR_a (op_convI rfl rfl (by simp only [inK]; omega)) rfl rfl ?_ | refine XR_a (op_conv rfl rfl) rfl rfl ?_
  refine XR_a (op_addN (m := 8) (n := lenN u) rfl rfl (by simp only [inK]; omega)) rfl rfl ?_
  rw [hs]
  refine XA rfl rfl rfl (XR_nil ?_)
  refine X_ret (.cons (.tmp rfl) .nil) ?_
  exact ⟨rfl, rfl⟩
 ·refine X_skip (X_seq (X_reg (XV rfl rfl rfl (XV rfl rfl rfl ?_))))
  first | refine XR_a (op_convI rfl rfl (by simp only [inK]; omega)) rfl rfl ?_ | refine XR_a (op_convU rfl rfl rfl) rfl rfl ?_ | refine XR_a (op_conv rfl rfl) rfl rfl ?_
  have hl := lenN_lt (v := v) (k := 8) (by omega)
  refine XR_a (op_indexS (s := ByteArray.mk lenTab.toArray) (i := v) (by kernel_rfl) rfl rfl (lenTab_get (by omega))) rfl rfl ?_
  rw [show (UInt8.ofNat (lenN v)).toNat = lenN v by simp; omega]
  first | refine XR_a (op_convI rfl rfl (by simp only [inK]; omega)) rfl rfl ?_ | refine XR_a (op_conv rfl rfl) rfl rfl ?_
  refine XR_a (op_addN (m := 0) (n := lenN v) rfl rfl (by simp only [inK]; omega)) rfl rfl ?_
  refine XR_as (.int .i64 (lenN v : Nat)) (by rw [Nat.zero_add]) ?_
  refine XA rfl rfl rfl (XR_nil ?_)
  refine X_ret (.cons (.tmp rfl) .nil) ?_
  exact ⟨rfl, rfl⟩
theorem blen_spec {v : Nat} (hv : v < 65536) (h0 : Heap) : Ret Tryz.prog 143 [.int .u64 (v : Int)] h0 fun r h' => r = .int .i64 (lenN v : Nat) ∧ h0 = h' := by
 refine ret_of_X Tryz.func143 rfl rfl fun w0 hw0 => ?_
 simp only [argE, Nat.zero_add, Nat.reduceAdd]
 refine X_seq (X_reg (XA rfl rfl rfl (XR_nil (X_seq (X_else rfl (X_skip (X_seq (X_reg (XV rfl rfl rfl ?_)))))))))
 refine XR_wa (opl_call (len64_spec hv _) rfl (by kernel_rfl)) rfl rfl rfl ?_
 rintro _ _ ⟨rfl, rfl⟩
 refine XA rfl rfl rfl (XR_nil ?_)
 refine X_ret (.cons (.tmp rfl) .nil) ?_
 exact ⟨rfl, rfl⟩
theorem sof_spec {v : Int} (h0 : Heap) : Ret Tryz.prog 115 [.int .i64 v] h0 fun r h' => r = retVal [.agg (clsV (ofC v).1).toArray, .bool (ofC v).2] ∧ Ext h0 h' := by
 refine ret_of_X Tryz.func115 rfl rfl fun w0 hw0 => ?_
 simp only [argE, Nat.zero_add, Nat.reduceAdd]
 have st := St.start h0
 refine X_seq (X_reg ?_)
 refine XR_wa (opl_new rfl) rfl rfl rfl ?_
 rintro _ hp ⟨pp1, rfl, hnew⟩
 replace st := st.new hnew
 refine XA rfl rfl rfl (XR_nil (X_seq (X_block (X_seq (X_reg (XV rfl rfl rfl ?_))))))
 refine XR_a (op_lss rfl rfl) rfl rfl ?_
 refine XV rfl rfl rfl ?_
 refine XR_if 8 rfl (fun h => ?_) (fun h => ?_)
 ·refine XR_no rfl rfl (XR_no rfl rfl (XR_a (op_pick_t rfl rfl) rfl rfl (XA rfl rfl rfl (XR_nil (X_then rfl (X_seq (X_reg ?_)))))))
  refine XR_a (op_build (ps := []) (cs := (clsV Kls.nil).toArray) rfl rfl) rfl rfl ?_
  refine XR_wn (opl_store_whole (us := clsV Kls.nil) st 0 rfl rfl rfl rfl rfl (clsV_one _) rfl) rfl rfl fun _ hp st => ?_
  simp only [List.set_cons_zero, List.set_cons_succ] at st
  refine XA rfl rfl rfl (XR_nil ?_)
  refine X_ret (.cons (RV_agg (vs := clsV Kls.nil) rfl rfl rfl (st.cells 0 rfl)) (.cons (.tmp rfl) .nil)) ?_
  have e : ofC v = (Kls.nil, false) := by unfold ofC; rw [if_pos (by omega)]
  rw [e]
  exact ⟨rfl, st.low⟩
 ·refine XV rfl rfl rfl ?_
  refine XR_a (op_gtr rfl rfl) rfl rfl ?_
  refine XR_a (op_pick_f rfl rfl) rfl rfl (XA rfl rfl rfl (XR_nil ?_))
  refine X_if rfl (fun h => ?_) (fun h => ?_)
  ·refine X_seq (X_reg ?_)
   refine XR_a (op_build (ps := []) (cs := (clsV Kls.nil).toArray) rfl rfl) rfl rfl ?_
   refine XR_wn (opl_store_whole (us := clsV Kls.nil) st 0 rfl rfl rfl rfl rfl (clsV_one _) rfl) rfl rfl fun _ hp st => ?_
   simp only [List.set_cons_zero, List.set_cons_succ] at st
   refine XA rfl rfl rfl (XR_nil ?_)
   refine X_ret (.cons (RV_agg (vs := clsV Kls.nil) rfl rfl rfl (st.cells 0 rfl)) (.cons (.tmp rfl) .nil)) ?_
   have e : ofC v = (Kls.nil, false) := by unfold ofC; rw [if_pos (by omega)]
   rw [e]
   exact ⟨rfl, st.low⟩
  ·refine X_seq (X_reg (XV rfl rfl rfl ?_))
   refine XR_a (op_lss rfl rfl) rfl rfl ?_
   refine XA rfl rfl rfl (XR_nil ?_)
   refine X_if rfl (fun h => ?_) (fun h => ?_)
   ·obtain ⟨x, rfl⟩ : ∃ x : Nat, v = x := ⟨v.toNat, by omega⟩
    have e : ofC (x : Int) = (⟨x, 0, 0⟩, true) := by
     unfold ofC; rw [if_neg (by omega), Int.toNat_natCast, klsOf_small (by omega)]
    rw [e]
    refine X_seq (X_reg (XV rfl rfl rfl ?_))
    refine XR_a (op_build (ps := [(0, .int .i64 (x : Int))]) (cs := (clsV ⟨x, 0, 0⟩).toArray) rfl rfl) rfl rfl ?_
    refine XR_wn (opl_store_whole (us := clsV ⟨x, 0, 0⟩) st 0 rfl rfl rfl rfl rfl (clsV_one _) rfl) rfl rfl fun _ hp st => ?_
    simp only [List.set_cons_zero, List.set_cons_succ] at st
    refine XA rfl rfl rfl (XR_nil ?_)
    refine X_ret (.cons (RV_agg (vs := clsV ⟨x, 0, 0⟩) rfl rfl rfl (st.cells 0 rfl)) (.cons (.tmp rfl) .nil)) ?_
    exact ⟨rfl, st.low⟩
   ·obtain ⟨x, rfl⟩ : ∃ x : Nat, v = x := ⟨v.toNat, by omega⟩
    obtain ⟨n, q, hn, hn1, hq, hv, hc, hb, hbase, hsum⟩ := kls_spec (v := x) (by omega)
    have e : ofC (x : Int) = (⟨((2 * n + q : Nat) : Int), n, ((x % 2 ^ n : Nat) : Int)⟩, true) := by
     unfold ofC; rw [if_neg (by omega), Int.toNat_natCast, klsOf_big hc hb hbase hsum]
    rw [e]
    have hp2 : 2 * 2 ^ n ≤ x := by
     rcases hq with rfl | rfl <;> omega
    have hp0 := two_lt n
    have hn14 : n ≤ 14 := by
     have : 2 ^ n < 2 ^ 15 := by omega
     have := (Nat.pow_lt_pow_iff_right (by omega : 1 < 2)).1 this
     omega
    have hxm := Nat.mod_lt x hp0
    refine X_skip (X_blk (X_seq (X_reg (XV rfl rfl rfl ?_))))
    first | refine XR_a (op_convI rfl rfl (by simp only [inK]; omega)) rfl rfl ?_ | refine XR_a (op_convU rfl rfl rfl) rfl rfl ?_ | refine XR_a (op_conv rfl rfl) rfl rfl ?_
    refine XR_wa (opl_call (blen_spec (v := x) (by omega) _) rfl (by kernel_rfl)) rfl rfl rfl ?_
    rintro _ _ ⟨rfl, rfl⟩
    rw [hn]
    refine XR_a (op_subN (m := n + 2) (n := 2) rfl rfl (by omega) (by simp only [inK]; omega)) rfl rfl ?_
    rw [Nat.add_sub_cancel]
    refine XA rfl rfl rfl (XR_nil (X_seq ?_))
    refine X_draw byKind (by kernel_rfl) (by kernel_rfl) ?_
    refine XV rfl rfl rfl ?_
    first | refine XR_a (op_mulN (m := 2) rfl rfl (by simp only [inK]; omega)) rfl rfl ?_ | refine XR_a (op_mulI rfl rfl (by simp only [inK]; omega)) rfl rfl ?_ | refine XR_a (op_mul rfl rfl) rfl rfl ?_
    refine XV rfl rfl rfl (XV rfl rfl rfl ?_)
    refine XR_a (op_shrC (m := x) n rfl rfl (by simp only [IntKind.bits]; omega)) rfl rfl ?_
    rw [hv]
    first | refine XR_a (op_addN rfl rfl (by simp only [inK]; omega)) rfl rfl ?_ | refine XR_a (op_addI rfl rfl (by simp only [inK]; omega)) rfl rfl ?_ | refine XR_a (op_add rfl rfl) rfl rfl ?_
    refine XV rfl rfl rfl (XV rfl rfl rfl (XV rfl rfl rfl ?_))
    refine XR_a (op_shlC (m := 1) n rfl rfl (by simp only [IntKind.bits]; omega) (by simp only [inK]; omega)) rfl rfl ?_
    rw [Nat.one_mul]
    refine XR_a (op_subN (m := 2 ^ n) (n := 1) rfl rfl (by omega) (by simp only [inK]; omega)) rfl rfl ?_
    refine XR_a (op_andS (m := x) (n := 2 ^ n - 1) rfl rfl (by simp only [inK]; omega) (by simp only [inK]; omega)) rfl rfl ?_
    rw [Nat.and_two_pow_sub_one_eq_mod]
    generalize x % 2 ^ n = y at *
    first | refine XR_a (op_convI rfl rfl (by simp only [inK]; omega)) rfl rfl ?_ | refine XR_a (op_convU rfl rfl rfl) rfl rfl ?_ | refine XR_a (op_conv rfl rfl) rfl rfl ?_
    refine XR_a (op_build (ps := [(0, .int .i64 ((2 * n + q : Nat) : Int)), (1, .int .i64 (n : Int)), (2, .int .u32 (y : Int))]) (cs := (clsV ⟨((2 * n + q : Nat) : Int), n, (y : Int)⟩).toArray) rfl rfl) rfl rfl ?_
    refine XR_wn (opl_store_whole (us := clsV ⟨((2 * n + q : Nat) : Int), n, (y : Int)⟩) st 0 rfl rfl rfl rfl rfl (clsV_one _) rfl) rfl rfl fun _ hp st => ?_
    simp only [List.set_cons_zero, List.set_cons_succ] at st
    refine XA rfl rfl rfl (XR_nil ?_)
    refine X_ret (.cons (RV_agg (vs := clsV ⟨((2 * n + q : Nat) : Int), n, (y : Int)⟩) rfl rfl rfl (st.cells 0 rfl)) (.cons (.tmp rfl) .nil)) ?_
    exact ⟨rfl, st.low⟩
def baseP (i : Int) : Int × Int × Bool := if i < 0 ∨ 30 ≤ i then (0, 0, false) else (baseC i.toNat, bitsC i.toNat, true)
theorem bits14 {i : Nat} (h : i < 30) : bitsC i ≤ 13 := by unfold bitsC; split <;> omega
theorem pow13 {k : Nat} (h : k ≤ 13) : 2 ^ k ≤ 8192 := Nat.pow_le_pow_right (by omega) h
theorem sbase_spec (v : Int) (h0 : Heap) : Ret Tryz.prog 108 [.int .i64 v] h0 fun r h' => r = retVal [.int .i64 (baseP v).1, .int .i64 (baseP v).2.1, .bool (baseP v).2.2] ∧ h0 = h' := by
 refine ret_of_X Tryz.func108 rfl rfl fun w0 hw0 => ?_
 simp only [argE, Nat.zero_add, Nat.reduceAdd]
 refine X_seq (X_reg (XA rfl rfl rfl (XA rfl rfl rfl (XA rfl rfl rfl (XR_nil (X_seq (X_block (X_seq (X_reg ?_)))))))))
 refine XV rfl rfl rfl ?_
 refine XR_a (op_lss rfl rfl) rfl rfl ?_
 refine XV rfl rfl rfl ?_
 refine XR_if 9 rfl (fun h => ?_) (fun h => ?_)
 ·refine XR_no rfl rfl (XR_no rfl rfl (XR_a (op_pick_t rfl rfl) rfl rfl (XA rfl rfl rfl (XR_nil (X_then rfl (X_seq (X_reg (XA rfl rfl rfl (XA rfl rfl rfl ?_)))))))))
  refine XA rfl rfl rfl (XR_nil ?_)
  refine X_ret (.cons (.tmp rfl) (.cons (.tmp rfl) (.cons (.tmp rfl) .nil))) ?_
  have e : baseP v = (0, 0, false) := by unfold baseP; rw [if_pos (by omega)]
  rw [e]
  exact ⟨rfl, rfl⟩
 ·refine XV rfl rfl rfl ?_
  refine XR_a (op_geq rfl rfl) rfl rfl ?_
  refine XR_a (op_pick_f rfl rfl) rfl rfl (XA rfl rfl rfl (XR_nil ?_))
  refine X_if rfl (fun h => ?_) (fun h => ?_)
  ·refine X_seq (X_reg (XA rfl rfl rfl (XA rfl rfl rfl (XA rfl rfl rfl (XR_nil ?_)))))
   refine X_ret (.cons (.tmp rfl) (.cons (.tmp rfl) (.cons (.tmp rfl) .nil))) ?_
   have e : baseP v = (0, 0, false) := by unfold baseP; rw [if_pos (by omega)]
   rw [e]
   exact ⟨rfl, rfl⟩
  ·refine X_seq (X_reg (XV rfl rfl rfl ?_))
   refine XR_a (op_lss rfl rfl) rfl rfl ?_
   refine XA rfl rfl rfl (XR_nil ?_)
   refine X_if rfl (fun h => ?_) (fun h => ?_)
   ·obtain ⟨x, rfl⟩ : ∃ x : Nat, v = x := ⟨v.toNat, by omega⟩
    have e : baseP (x : Int) = ((x : Int), 0, true) := by
     unfold baseP; rw [if_neg (by omega), Int.toNat_natCast, baseC_small _ (by omega)]
     unfold bitsC; rw [if_pos (by omega)]; rfl
    rw [e]
    refine X_seq (X_reg (XV rfl rfl rfl (XA rfl rfl rfl (XA rfl rfl rfl (XA rfl rfl rfl (XR_nil ?_))))))
    refine X_ret (.cons (.tmp rfl) (.cons (.tmp rfl) (.cons (.tmp rfl) .nil))) ?_
    exact ⟨rfl, rfl⟩
   ·obtain ⟨x, rfl⟩ : ∃ x : Nat, v = x := ⟨v.toNat, by omega⟩
    have e : baseP (x : Int) = ((((2 + x % 2) * 2 ^ (x / 2 - 1) : Nat) : Int), ((x / 2 - 1 : Nat) : Int), true) := by
     unfold baseP; rw [if_neg (by omega), Int.toNat_natCast, baseC_form _ (by omega)]
     unfold bitsC; rw [if_neg (by omega)]
    rw [e]
    have hk : x / 2 - 1 ≤ 13 := by omega
    have hp := pow13 hk
    refine X_skip (X_blk (X_seq (X_reg (XV rfl rfl rfl ?_))))
    first | refine XR_a (op_quoN (n := 2) rfl rfl (by omega) (by simp only [inK]; omega)) rfl rfl ?_ | refine XR_a (op_quoI rfl rfl (by omega) (by omega) (by simp only [inK]; omega)) rfl rfl ?_ | refine XR_a (op_quo rfl rfl (by omega)) rfl rfl ?_
    refine XR_a (op_subN (m := x / 2) (n := 1) rfl rfl (by omega) (by simp only [inK]; omega)) rfl rfl ?_
    have hx2 : 2 + x % 2 ≤ 3 := by omega
    generalize x / 2 - 1 = k at *
    refine XA rfl rfl rfl (XR_nil (X_seq (X_reg (XV rfl rfl rfl ?_))))
    first | refine XR_a (op_remN (n := 2) rfl rfl (by omega)) rfl rfl ?_ | refine XR_a (op_remI rfl rfl (by omega) (by omega)) rfl rfl ?_ | refine XR_a (op_rem rfl rfl (by omega)) rfl rfl ?_
    first | refine XR_a (op_addN (m := 2) rfl rfl (by simp only [inK]; omega)) rfl rfl ?_ | refine XR_a (op_addI rfl rfl (by simp only [inK]; omega)) rfl rfl ?_ | refine XR_a (op_add rfl rfl) rfl rfl ?_
    refine XV rfl rfl rfl ?_
    have hb : (2 + x % 2) * 2 ^ k ≤ 3 * 8192 := Nat.mul_le_mul hx2 hp
    refine XR_a (op_shlC (m := 2 + x % 2) k rfl rfl (by simp only [IntKind.bits]; omega) (by simp only [inK]; omega)) rfl rfl ?_
    refine XV rfl rfl rfl (XA rfl rfl rfl (XA rfl rfl rfl (XA rfl rfl rfl (XR_nil ?_))))
    refine X_ret (.cons (.tmp rfl) (.cons (.tmp rfl) (.cons (.tmp rfl) .nil))) ?_
    exact ⟨rfl, rfl⟩
theorem sbase_yes {v : Int} {i : Nat} (hi : v = i) (h : i < 30) (h0 : Heap) : Ret Tryz.prog 108 [.int .i64 v] h0 fun r h' => r = retVal [.int .i64 (baseC i : Nat), .int .i64 (bitsC i : Nat), .bool true] ∧ h0 = h' := by
 have e := sbase_spec v h0
 rw [show baseP v = ((baseC i : Int), (bitsC i : Int), true) by unfold baseP; rw [if_neg (by omega), hi, Int.toNat_natCast]] at e
 exact e
theorem sbase_no {v : Int} (h : v < 0 ∨ 30 ≤ v) (h0 : Heap) : Ret Tryz.prog 108 [.int .i64 v] h0 fun r h' => r = retVal [.int .i64 0, .int .i64 0, .bool false] ∧ h0 = h' := by
 have e := sbase_spec v h0
 rw [show baseP v = (0, 0, false) by unfold baseP; rw [if_pos h]] at e
 exact e
def valP (c : Kls) : Int × Bool := match valC c with
  | some v => ((v : Int), true)
  | none => (0, false)
theorem valP_some {c : Kls} {v : Nat} (h : valC c = some v) : valP c = ((v : Int), true) := by unfold valP; rw [h]
theorem valP_none {c : Kls} (h : valC c = none) : valP c = (0, false) := by unfold valP; rw [h]
theorem valC_none1 {c : Kls} (h : c.num < 0 ∨ 30 ≤ c.num) : valC c = none := by unfold valC; rw [if_pos h]
theorem valC_none2 {c : Kls} {i : Nat} (hi : c.num = i) (h : c.bits ≠ bitsC i) : valC c = none := by
 unfold valC
 split
 ·rfl
 ·rw [if_pos (by rw [hi]; exact h)]
theorem valC_none3 {c : Kls} {i e : Nat} (hi : c.num = i) (he : c.ext = e) (h : 2 ^ bitsC i ≤ e) : valC c = none := by
 unfold valC
 split
 ·rfl
 ·split
  ·rfl
  ·have hp : ((2 ^ bitsC i : Nat) : Int) = (2 : Int) ^ bitsC i := by rw [Int.natCast_pow]; rfl
   rw [if_pos (by rw [hi, he, Int.toNat_natCast, ← hp]; omega)]
theorem valC_yes {c : Kls} {i e : Nat} (hi : c.num = i) (h30 : i < 30) (hb : c.bits = bitsC i) (he : c.ext = e) (h : e < 2 ^ bitsC i) : valC c = some (baseC i + e) := by
 have hp : ((2 ^ bitsC i : Nat) : Int) = (2 : Int) ^ bitsC i := by rw [Int.natCast_pow]; rfl
 unfold valC
 rw [if_neg (by omega), hi, Int.toNat_natCast, if_neg (by rw [hb]; simp), if_neg (by rw [he, ← hp]; omega), he, Int.toNat_natCast]
theorem base30 {i : Nat} (h : i < 30) : baseC i + 2 ^ bitsC i ≤ 32768 := by
 have := baseC_mono (show i + 1 ≤ 30 by omega)
 rw [baseC, show baseC 30 = 32768 by decide] at this
 exact this
theorem sval_spec {c : Kls} (hx : 0 ≤ c.ext ∧ c.ext < 4294967296) (h0 : Heap) : Ret Tryz.prog 141 [.agg #[.int .i64 c.num, .int .i64 c.bits, .int .u32 c.ext]] h0 fun r h' => r = retVal [.int .i64 (valP c).1, .bool (valP c).2] ∧ Ext h0 h' := by
 refine ret_of_X Tryz.func141 rfl rfl fun w0 hw0 => ?_
 simp only [argE, Nat.zero_add, Nat.reduceAdd]
 have st := St.start h0
 refine X_seq (X_reg ?_)
 refine XR_wa (opl_bx rfl rfl) rfl rfl rfl ?_
 rintro _ hp ⟨p, rfl, hnew⟩
 have st := st.new hnew
 refine XA rfl rfl rfl (XA rfl rfl rfl (XR_nil (X_seq (X_reg ?_))))
 first | refine XR_a (op_field0 rfl rfl) rfl rfl ?_ | refine XR_a (op_fieldn rfl rfl) rfl rfl ?_
 by_cases hr : c.num < 0 ∨ 30 ≤ c.num
 ·refine XR_a (op_ld (by first | assumption | exact st.cell 0 rfl rfl | exact st.cell 1 rfl rfl | exact st.cell 2 rfl rfl | exact st.cell 3 rfl rfl) rfl rfl rfl) rfl rfl ?_
  refine XR_wa (opl_call (sbase_no hr _) rfl (by kernel_rfl)) rfl rfl rfl ?_
  rintro _ _ ⟨rfl, rfl⟩
  refine XV rfl rfl rfl (XR_a (op_extract rfl rfl) rfl rfl (XR_a (op_extract rfl rfl) rfl rfl (XR_a (op_extract rfl rfl) rfl rfl (XA rfl rfl rfl (XA rfl rfl rfl (XA rfl rfl rfl (XR_nil (X_seq (X_seq ?_)))))))))
  refine X_reg (XV rfl rfl rfl ?_)
  first | refine XR_a (op_notd rfl) rfl rfl ?_ | refine XR_a (op_not rfl) rfl rfl ?_
  refine XV rfl rfl rfl (XR_no rfl rfl (XR_no rfl rfl (XR_no rfl rfl (XR_no rfl rfl (XR_a (op_pick_t rfl rfl) rfl rfl (XV rfl rfl rfl (XR_no rfl rfl (XR_no rfl rfl (XR_no rfl rfl ?_)))))))))
  refine XR_no rfl rfl (XR_no rfl rfl (XR_a (op_pick_t rfl rfl) rfl rfl (XR_nil (X_then rfl (X_seq (X_reg (XA rfl rfl rfl (XA rfl rfl rfl (XR_nil ?_)))))))))
  refine X_ret (.cons (.tmp rfl) (.cons (.tmp rfl) .nil)) ?_
  rw [valP_none (valC_none1 hr)]
  exact ⟨rfl, st.low⟩
 ·obtain ⟨i, hi⟩ : ∃ i : Nat, c.num = i := ⟨c.num.toNat, by omega⟩
  obtain ⟨e, he⟩ : ∃ e : Nat, c.ext = e := ⟨c.ext.toNat, by omega⟩
  have h30 : i < 30 := by omega
  have hk := bits14 h30
  have hp := pow13 hk
  have hp0 := two_lt (bitsC i)
  have hbase := base30 h30
  refine XR_a (op_ld (by first | assumption | exact st.cell 0 rfl rfl | exact st.cell 1 rfl rfl | exact st.cell 2 rfl rfl | exact st.cell 3 rfl rfl) rfl rfl rfl) rfl rfl ?_
  refine XR_wa (opl_call (sbase_yes hi h30 _) rfl (by kernel_rfl)) rfl rfl rfl ?_
  rintro _ _ ⟨rfl, rfl⟩
  refine XV rfl rfl rfl (XR_a (op_extract rfl rfl) rfl rfl (XR_a (op_extract rfl rfl) rfl rfl (XR_a (op_extract rfl rfl) rfl rfl (XA rfl rfl rfl (XA rfl rfl rfl (XA rfl rfl rfl (XR_nil (X_seq (X_seq ?_)))))))))
  refine X_reg (XV rfl rfl rfl ?_)
  first | refine XR_a (op_notd rfl) rfl rfl ?_ | refine XR_a (op_not rfl) rfl rfl ?_
  refine XV rfl rfl rfl (XV rfl rfl rfl ?_)
  first | refine XR_a (op_field0 rfl rfl) rfl rfl ?_ | refine XR_a (op_fieldn rfl rfl) rfl rfl ?_
  refine XR_a (op_ld (by first | assumption | exact st.cell 0 rfl rfl | exact st.cell 1 rfl rfl | exact st.cell 2 rfl rfl | exact st.cell 3 rfl rfl) rfl rfl rfl) rfl rfl ?_
  refine XR_a (op_neq rfl rfl) rfl rfl ?_
  refine XR_a (op_pick_f rfl rfl) rfl rfl (XV rfl rfl rfl ?_)
  refine XR_if 22 rfl (fun h => ?_) (fun h => ?_)
  ·refine XR_no rfl rfl (XR_no rfl rfl (XR_no rfl rfl (XR_no rfl rfl (XR_no rfl rfl (XR_a (op_pick_t rfl rfl) rfl rfl (XR_nil (X_then rfl (X_seq (X_reg ?_)))))))))
   refine XA rfl rfl rfl (XA rfl rfl rfl (XR_nil ?_))
   refine X_ret (.cons (.tmp rfl) (.cons (.tmp rfl) .nil)) ?_
   rw [valP_none (valC_none2 hi (fun hh => h (by rw [hh])))]
   exact ⟨rfl, st.low⟩
  ·first | refine XR_a (op_field0 rfl rfl) rfl rfl ?_ | refine XR_a (op_fieldn rfl rfl) rfl rfl ?_
   refine XR_a (op_ld (by first | assumption | exact st.cell 0 rfl rfl | exact st.cell 1 rfl rfl | exact st.cell 2 rfl rfl | exact st.cell 3 rfl rfl) rfl rfl rfl) rfl rfl ?_
   refine XV rfl rfl rfl ?_
   rw [he]
   refine XR_a (op_shrA (m := e) (bitsC i) rfl rfl (by simp only [IntKind.bits]; omega)) rfl rfl ?_
   refine XR_a (op_neq rfl rfl) rfl rfl ?_
   refine XR_a (op_pick_f rfl rfl) rfl rfl (XR_nil ?_)
   refine X_if rfl (fun h => ?_) (fun h => ?_)
   ·have hge : 2 ^ bitsC i ≤ e := by
     rcases Nat.lt_or_ge e (2 ^ bitsC i) with hlt | hge
     ·exact absurd (by rw [Nat.div_eq_of_lt hlt]; rfl) h
     ·exact hge
    refine X_seq (X_reg (XA rfl rfl rfl (XA rfl rfl rfl (XR_nil ?_))))
    refine X_ret (.cons (.tmp rfl) (.cons (.tmp rfl) .nil)) ?_
    rw [valP_none (valC_none3 hi he hge)]
    exact ⟨rfl, st.low⟩
   ·have hlt : e < 2 ^ bitsC i := by
     rcases Nat.lt_or_ge e (2 ^ bitsC i) with hlt | hge
     ·exact hlt
     ·have : 0 < e / 2 ^ bitsC i := Nat.div_pos hge hp0
      omega
    have hbb : c.bits = bitsC i := by omega
    rw [valP_some (valC_yes hi h30 hbb he hlt)]
    refine X_skip (X_seq (X_reg (XV rfl rfl rfl ?_)))
    first | refine XR_a (op_field0 rfl rfl) rfl rfl ?_ | refine XR_a (op_fieldn rfl rfl) rfl rfl ?_
    refine XR_a (op_ld (st.cell 0 (i := 2) rfl rfl) rfl rfl rfl) rfl rfl ?_
    first | refine XR_a (op_convI rfl rfl (by simp only [inK]; omega)) rfl rfl ?_ | refine XR_a (op_conv rfl rfl) rfl rfl ?_
    refine XR_as (.int .i64 (e : Int)) (by rw [he]) ?_
    first | refine XR_a (op_addN rfl rfl (by simp only [inK]; omega)) rfl rfl ?_ | refine XR_a (op_addI rfl rfl (by simp only [inK]; omega)) rfl rfl ?_ | refine XR_a (op_add rfl rfl) rfl rfl ?_
    refine XA rfl rfl rfl (XA rfl rfl rfl (XR_nil ?_))
    refine X_ret (.cons (.tmp rfl) (.cons (.tmp rfl) .nil)) ?_
    exact ⟨rfl, st.low⟩
theorem bits_ref {v : Int} (hv : v ≤ 1000) (h0 : Heap) : Ret Tryz.prog 74 [.int .i64 v] h0 fun r h' => r = .int .i64 (bitsC v.toNat : Nat) ∧ h0 = h' := by
 refine ret_of_X Tryz.func74 rfl rfl fun w0 hw0 => ?_
 simp only [argE, Nat.zero_add, Nat.reduceAdd]
 refine X_seq (X_reg (XA rfl rfl rfl (XR_nil (X_seq (X_seq (X_reg (XV rfl rfl rfl ?_)))))))
 refine XR_a (op_lss rfl rfl) rfl rfl ?_
 refine XR_nil ?_
 refine X_if rfl (fun h => ?_) (fun h => ?_)
 ·refine X_seq (X_reg (XA rfl rfl rfl (XR_nil ?_)))
  refine X_ret (.cons (.tmp rfl) .nil) ?_
  have e : bitsC v.toNat = 0 := by unfold bitsC; rw [if_pos (by omega)]
  rw [e]
  exact ⟨rfl, rfl⟩
 ·obtain ⟨x, rfl⟩ : ∃ x : Nat, v = x := ⟨v.toNat, by omega⟩
  have e : bitsC x = x / 2 - 1 := by unfold bitsC; rw [if_neg (by omega)]
  rw [Int.toNat_natCast, e]
  refine X_skip (X_seq (X_reg (XV rfl rfl rfl ?_)))
  first | refine XR_a (op_quoN (n := 2) rfl rfl (by omega) (by simp only [inK]; omega)) rfl rfl ?_ | refine XR_a (op_quoI rfl rfl (by omega) (by omega) (by simp only [inK]; omega)) rfl rfl ?_ | refine XR_a (op_quo rfl rfl (by omega)) rfl rfl ?_
  first | refine XR_a (op_subN (n := 1) rfl rfl (by omega) (by simp only [inK]; omega)) rfl rfl ?_ | refine XR_a (op_subI rfl rfl (by simp only [inK]; omega)) rfl rfl ?_ | refine XR_a (op_sub rfl rfl) rfl rfl ?_
  refine XA rfl rfl rfl (XR_nil ?_)
  refine X_ret (.cons (.tmp rfl) .nil) ?_
  exact ⟨rfl, rfl⟩
theorem base_ref {n : Nat} (hn : n ≤ 30) (h0 : Heap) : Ret Tryz.prog 113 [.int .i64 (n : Int)] h0 fun r h' => r = .int .i64 (baseC n : Nat) ∧ h0 = h' := by
 refine ret_of_X Tryz.func113 rfl rfl fun w0 hw0 => ?_
 simp only [argE, Nat.zero_add, Nat.reduceAdd]
 refine X_seq (X_reg (XA rfl rfl rfl (XR_nil (X_seq (X_reg (XA rfl rfl rfl (XR_nil (X_seq (X_seq ?_)))))))))
 refine X_reg (XA rfl rfl rfl (XR_nil (X_block ?_)))
 refine X_loop (fun i => n - i) (fun i => [(0, .int .i64 (n : Int)), (3, .int .i64 (baseC i : Nat)), (4, .int .i64 (i : Int))])
  (fun (i : Nat) hp => h0 = hp ∧ i ≤ n) 0 (.cons rfl (.cons rfl (.cons rfl (.nil _)))) ⟨rfl, by omega⟩ ?_
 rintro i hp ⟨rfl, hi⟩
 refine X_seq (X_seq (X_reg (XV rfl rfl rfl (XV rfl rfl rfl ?_))))
 refine XR_a (op_lss rfl rfl) rfl rfl ?_
 refine XR_nil ?_
 refine X_if rfl (fun h => ?_) (fun h => ?_)
 ·have hin : i < n := by omega
  have h30 : i < 30 := by omega
  have hk := bits14 h30
  have hp13 := pow13 hk
  have hbase := base30 h30
  have hp0 := two_lt (bitsC i)
  refine X_skip (X_seq (X_block (X_seq (X_reg (XA rfl rfl rfl (XR_nil (X_seq (X_seq (X_reg ?_)))))))))
  refine XA rfl rfl rfl (XR_nil (X_block ?_))
  refine X_loop (fun k => bitsC i - k) (fun k => [(0, .int .i64 (n : Int)), (3, .int .i64 (baseC i : Nat)), (4, .int .i64 (i : Int)), (5, .int .i64 ((2 ^ k : Nat) : Int)), (6, .int .i64 (k : Int))])
   (fun (k : Nat) hp => h0 = hp ∧ k ≤ bitsC i) 0 (.cons rfl (.cons rfl (.cons rfl (.cons rfl (.cons rfl (.nil _)))))) ⟨rfl, by omega⟩ ?_
  rintro k hp ⟨rfl, hki⟩
  refine X_seq (X_seq (X_reg (XV rfl rfl rfl (XV rfl rfl rfl ?_))))
  refine XR_wa (opl_call (bits_ref (by omega) _) rfl (by kernel_rfl)) rfl rfl rfl ?_
  rintro _ _ ⟨rfl, rfl⟩
  rw [Int.toNat_natCast]
  refine XR_a (op_lss rfl rfl) rfl rfl ?_
  refine XR_nil ?_
  refine X_if rfl (fun h => ?_) (fun h => ?_)
  ·have hk1 := pow13 (k := k) (by omega)
   refine X_skip (X_seq (X_block (X_reg (XV rfl rfl rfl ?_))))
   refine XR_a (op_mulN (m := 2 ^ k) (n := 2) rfl rfl (by simp only [inK]; omega)) rfl rfl ?_
   refine XA rfl rfl rfl (XR_nil (X_blk (X_reg (XV rfl rfl rfl ?_))))
   first | refine XR_a (op_addN (n := 1) rfl rfl (by simp only [inK]; omega)) rfl rfl ?_ | refine XR_a (op_addI rfl rfl (by simp only [inK]; omega)) rfl rfl ?_ | refine XR_a (op_add rfl rfl) rfl rfl ?_
   refine XA rfl rfl rfl (XR_nil ?_)
   exact X_again (k + 1) (.cons rfl (.cons rfl (.cons rfl (.cons rfl (.cons rfl (.nil _)))))) ⟨rfl, by omega⟩ (by omega)
  ·obtain rfl : k = bitsC i := by omega
   refine X_exit rfl (X_reg (XV rfl rfl rfl (XV rfl rfl rfl ?_)))
   first | refine XR_a (op_addN rfl rfl (by simp only [inK]; omega)) rfl rfl ?_ | refine XR_a (op_addI rfl rfl (by simp only [inK]; omega)) rfl rfl ?_ | refine XR_a (op_add rfl rfl) rfl rfl ?_
   refine XA rfl rfl rfl (XR_nil (X_blk (X_reg (XV rfl rfl rfl ?_))))
   first | refine XR_a (op_addN (n := 1) rfl rfl (by simp only [inK]; omega)) rfl rfl ?_ | refine XR_a (op_addI rfl rfl (by simp only [inK]; omega)) rfl rfl ?_ | refine XR_a (op_add rfl rfl) rfl rfl ?_
   refine XA rfl rfl rfl (XR_nil ?_)
   exact X_again (i + 1) (.cons rfl (.cons rfl (.cons rfl (.nil _)))) ⟨rfl, by omega⟩ (by omega)
 ·obtain rfl : i = n := by omega
  refine X_exit rfl (X_seq (X_reg (XV rfl rfl rfl (XA rfl rfl rfl (XR_nil ?_)))))
  refine X_ret (.cons (.tmp rfl) .nil) ?_
  exact ⟨rfl, rfl⟩
theorem val_ref {c : Kls} (hx : 0 ≤ c.ext ∧ c.ext < 4294967296) (h0 : Heap) : Ret Tryz.prog 75 [.agg #[.int .i64 c.num, .int .i64 c.bits, .int .u32 c.ext]] h0 fun r h' => r = retVal [.int .i64 (valP c).1, .bool (valP c).2] ∧ Ext h0 h' := by
 refine ret_of_X Tryz.func75 rfl rfl fun w0 hw0 => ?_
 simp only [argE, Nat.zero_add, Nat.reduceAdd]
 have st := St.start h0
 refine X_seq (X_reg ?_)
 refine XR_wa (opl_bx rfl rfl) rfl rfl rfl ?_
 rintro _ hp ⟨p, rfl, hnew⟩
 have st := st.new hnew
 refine XA rfl rfl rfl (XA rfl rfl rfl (XR_nil (X_seq (X_seq ?_))))
 refine X_draw (butAt [(13, .grow)]) (by kernel_rfl) (by kernel_rfl) ?_
 first | refine XR_a (op_field0 rfl rfl) rfl rfl ?_ | refine XR_a (op_fieldn rfl rfl) rfl rfl ?_
 refine XR_a (op_ld (st.cell 0 (i := 0) rfl rfl) rfl rfl rfl) rfl rfl ?_
 refine XR_a (op_lss rfl rfl) rfl rfl ?_
 refine XV rfl rfl rfl ?_
 refine XR_if 9 rfl (fun h => ?_) (fun h => ?_)
 ·refine XR_no rfl rfl (XR_no rfl rfl (XR_no rfl rfl (XR_a (op_pick_t rfl rfl) rfl rfl (XV rfl rfl rfl (XR_no rfl rfl (XR_no rfl rfl (XR_no rfl rfl (XR_no rfl rfl (XR_no rfl rfl ?_)))))))))
  refine XR_no rfl rfl (XR_a (op_pick_t rfl rfl) rfl rfl (XR_nil (X_then rfl (X_seq (X_reg (XA rfl rfl rfl (XA rfl rfl rfl (XR_nil ?_))))))))
  refine X_ret (.cons (.tmp rfl) (.cons (.tmp rfl) .nil)) ?_
  rw [valP_none (valC_none1 (by omega))]
  exact ⟨rfl, st.low⟩
 ·first | refine XR_a (op_field0 rfl rfl) rfl rfl ?_ | refine XR_a (op_fieldn rfl rfl) rfl rfl ?_
  refine XR_a (op_ld (st.cell 0 (i := 0) rfl rfl) rfl rfl rfl) rfl rfl ?_
  refine XR_a (op_gtr rfl rfl) rfl rfl ?_
  refine XR_a (op_pick_f rfl rfl) rfl rfl (XV rfl rfl rfl ?_)
  refine XR_if 14 rfl (fun h => ?_) (fun h => ?_)
  ·refine XR_no rfl rfl (XR_no rfl rfl (XR_no rfl rfl (XR_no rfl rfl (XR_no rfl rfl (XR_no rfl rfl (XR_a (op_pick_t rfl rfl) rfl rfl (XR_nil (X_then rfl (X_seq ?_)))))))))
   refine X_reg (XA rfl rfl rfl (XA rfl rfl rfl (XR_nil ?_)))
   refine X_ret (.cons (.tmp rfl) (.cons (.tmp rfl) .nil)) ?_
   rw [valP_none (valC_none1 (by omega))]
   exact ⟨rfl, st.low⟩
  ·first | refine XR_a (op_field0 rfl rfl) rfl rfl ?_ | refine XR_a (op_fieldn rfl rfl) rfl rfl ?_
   refine XR_a (op_ld (st.cell 0 (i := 1) rfl rfl) rfl rfl rfl) rfl rfl ?_
   first | refine XR_a (op_field0 rfl rfl) rfl rfl ?_ | refine XR_a (op_fieldn rfl rfl) rfl rfl ?_
   refine XR_a (op_ld (st.cell 0 (i := 0) rfl rfl) rfl rfl rfl) rfl rfl ?_
   refine XR_ga (opl_call (bits_ref (by omega) _) rfl (by kernel_rfl)) rfl rfl rfl (fun _ _ h => h.2 ▸ Low.refl _ _) ?_
   rintro _ _ ⟨rfl, rfl⟩
   refine XR_a (op_neq rfl rfl) rfl rfl ?_
   refine XR_a (op_pick_f rfl rfl) rfl rfl (XR_nil ?_)
   refine X_if rfl (fun h => ?_) (fun h => ?_)
   ·obtain ⟨i, hi⟩ : ∃ i : Nat, c.num = i := ⟨c.num.toNat, by omega⟩
    rw [show c.num.toNat = i by omega] at h
    refine X_seq (X_reg (XA rfl rfl rfl (XA rfl rfl rfl (XR_nil ?_))))
    refine X_ret (.cons (.tmp rfl) (.cons (.tmp rfl) .nil)) ?_
    rw [valP_none (valC_none2 hi h)]
    exact ⟨rfl, st.low⟩
   ·obtain ⟨i, hi⟩ : ∃ i : Nat, c.num = i := ⟨c.num.toNat, by omega⟩
    rw [show c.num.toNat = i by omega] at h
    have hbb := Decidable.not_not.1 h
    obtain ⟨e, he⟩ : ∃ e : Nat, c.ext = e := ⟨c.ext.toNat, by omega⟩
    have h30 : i < 30 := by omega
    have hk := bits14 h30
    have hp13 := pow13 hk
    have hbase := base30 h30
    refine X_skip (X_seq (X_reg (XA rfl rfl rfl (XR_nil (X_seq (X_seq (X_reg (XA rfl rfl rfl (XR_nil ?_)))))))))
    refine X_block ?_
    refine X_loop (fun k => bitsC i - k) (fun k => [(1, .pointer (some ⟨p, 0, none⟩)), (4, .int .u32 ((2 ^ k : Nat) : Int)), (5, .int .i64 (k : Int))])
     (fun (k : Nat) hp => St h0.size h0 hp [pt p 80 (clsV c)] ∧ k ≤ bitsC i) 0 (.cons rfl (.cons rfl (.cons rfl (.nil _)))) ⟨st, by omega⟩ ?_
    clear st
    rintro k hp ⟨st, hki⟩
    refine X_seq (X_seq (X_reg (XV rfl rfl rfl ?_)))
    first | refine XR_a (op_field0 rfl rfl) rfl rfl ?_ | refine XR_a (op_fieldn rfl rfl) rfl rfl ?_
    refine XR_a (op_ld (st.cell 0 (i := 1) rfl rfl) rfl rfl rfl) rfl rfl ?_
    refine XR_a (op_lss rfl rfl) rfl rfl ?_
    refine XR_nil ?_
    refine X_if rfl (fun h => ?_) (fun h => ?_)
    ·have hk1 := pow13 (k := k) (by omega)
     refine X_skip (X_seq (X_block (X_reg (XV rfl rfl rfl ?_))))
     refine XR_a (op_mulN (m := 2 ^ k) (n := 2) rfl rfl (by simp only [inK]; omega)) rfl rfl ?_
     refine XA rfl rfl rfl (XR_nil (X_blk (X_reg (XV rfl rfl rfl ?_))))
     first | refine XR_a (op_addN (n := 1) rfl rfl (by simp only [inK]; omega)) rfl rfl ?_ | refine XR_a (op_addI rfl rfl (by simp only [inK]; omega)) rfl rfl ?_ | refine XR_a (op_add rfl rfl) rfl rfl ?_
     refine XA rfl rfl rfl (XR_nil ?_)
     exact X_again (k + 1) (.cons rfl (.cons rfl (.cons rfl (.nil _)))) ⟨st, by omega⟩ (by omega)
    ·obtain rfl : k = bitsC i := by omega
     refine X_exit rfl (X_seq (X_seq (X_reg ?_)))
     first | refine XR_a (op_field0 rfl rfl) rfl rfl ?_ | refine XR_a (op_fieldn rfl rfl) rfl rfl ?_
     refine XR_a (op_ld (st.cell 0 (i := 2) rfl rfl) rfl rfl rfl) rfl rfl ?_
     refine XV rfl rfl rfl ?_
     refine XR_a (op_geq rfl rfl) rfl rfl ?_
     refine XR_nil ?_
     refine X_if rfl (fun h => ?_) (fun h => ?_)
     ·refine X_seq (X_reg (XA rfl rfl rfl (XA rfl rfl rfl (XR_nil ?_))))
      refine X_ret (.cons (.tmp rfl) (.cons (.tmp rfl) .nil)) ?_
      rw [valP_none (valC_none3 hi he (by omega))]
      exact ⟨rfl, st.low⟩
     ·rw [valP_some (valC_yes hi h30 hbb he (by omega))]
      refine X_skip (X_seq ?_)
      refine X_draw_in (butAt [(2, .grow)]) [0, 1, 3, 4, 5, 2, 6, 7, 8] (by kernel_rfl) (by kernel_rfl) rfl ?_
      first | refine XR_a (op_field0 rfl rfl) rfl rfl ?_ | refine XR_a (op_fieldn rfl rfl) rfl rfl ?_
      refine XR_a (op_ld (st.cell 0 (i := 0) rfl rfl) rfl rfl rfl) rfl rfl ?_
      refine XR_as (.int .i64 (i : Int)) (by rw [hi]) ?_
      first | refine XR_a (op_field0 rfl rfl) rfl rfl ?_ | refine XR_a (op_fieldn rfl rfl) rfl rfl ?_
      refine XR_a (op_ld (st.cell 0 (i := 2) rfl rfl) rfl rfl rfl) rfl rfl ?_
      first | refine XR_a (op_convI rfl rfl (by simp only [inK]; omega)) rfl rfl ?_ | refine XR_a (op_conv rfl rfl) rfl rfl ?_
      refine XR_as (.int .i64 (e : Int)) (by rw [he]) ?_
      refine XR_ga (opl_call (base_ref (n := i) (by omega) _) rfl (by kernel_rfl)) rfl rfl rfl (fun _ _ h => h.2 ▸ Low.refl _ _) ?_
      rintro _ _ ⟨rfl, rfl⟩
      first | refine XR_a (op_addN rfl rfl (by simp only [inK]; omega)) rfl rfl ?_ | refine XR_a (op_addI rfl rfl (by simp only [inK]; omega)) rfl rfl ?_ | refine XR_a (op_add rfl rfl) rfl rfl ?_
      refine XA rfl rfl rfl (XA rfl rfl rfl (XR_nil ?_))
      refine X_ret (.cons (.tmp rfl) (.cons (.tmp rfl) .nil)) ?_
      exact ⟨rfl, st.low⟩
end Go.Bn
end
