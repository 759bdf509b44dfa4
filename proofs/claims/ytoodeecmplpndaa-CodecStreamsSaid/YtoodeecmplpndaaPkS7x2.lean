/- Packed texts of a claim: what its theorem uses, joined. -/
import Derived.WalkKit
import Derived.Test.YtoodeecmplpndaaPkS7x1
section
namespace Go.Bn
open Go
structure Res where
  P : Heap → (Nat → Prop) → Prop
  loc : ∀ {h h' : Heap} {S : Nat → Prop}, P h S → (∀ k, S k → h'[k]? = h[k]?) → P h' S
  lt : ∀ {h : Heap} {S : Nat → Prop}, P h S → ∀ k, S k → k < h.size
def HS (B : Nat) (hp : Heap) : List Res → (Nat → Prop) → Prop
  | [], S => ∀ k, ¬ S k
  | r :: rs, S => ∃ S1 S2, r.P hp S1 ∧ HS B hp rs S2 ∧ (∀ k, S1 k → ¬ S2 k) ∧ (∀ k, S k ↔ S1 k ∨ S2 k) ∧ ∀ k, S1 k → B ≤ k
def H (B : Nat) (hp : Heap) (rs : List Res) : Prop := ∃ S, HS B hp rs S
theorem HS.lt {B : Nat} {hp : Heap} : ∀ {rs : List Res} {S : Nat → Prop}, HS B hp rs S → ∀ k, S k → k < hp.size
 | [], _, h, k, hk => absurd hk (h k)
 | r :: rs, S, ⟨S1, S2, h1, h2, _, hS, _⟩, k, hk => by
  rcases (hS k).1 hk with h | h
  ·exact r.lt h1 k h
  ·exact HS.lt h2 k h
theorem HS.loc {B : Nat} {hp hp' : Heap} : ∀ {rs : List Res} {S : Nat → Prop}, HS B hp rs S → (∀ k, S k → hp'[k]? = hp[k]?) → HS B hp' rs S
 | [], _, h, _ => h
 | r :: _, _, ⟨S1, S2, h1, h2, hd, hS, hb⟩, he => ⟨S1, S2, r.loc h1 (fun k hk => he k ((hS k).2 (.inl hk))), HS.loc h2 (fun k hk => he k ((hS k).2 (.inr hk))), hd, hS, hb⟩
theorem HS.iff {B : Nat} {hp : Heap} : ∀ {rs : List Res} {S S' : Nat → Prop}, HS B hp rs S → (∀ k, S' k ↔ S k) → HS B hp rs S'
 | [], _, _, h, he => fun k hk => h k ((he k).1 hk)
 | _ :: _, _, _, ⟨S1, S2, h1, h2, hd, hS, hb⟩, he => ⟨S1, S2, h1, h2, hd, fun k => (he k).trans (hS k), hb⟩
theorem H.nil (B : Nat) (hp : Heap) : H B hp [] := ⟨fun _ => False, fun _ h => h⟩
theorem H.ext {B : Nat} {hp hp' : Heap} {rs : List Res} (h : H B hp rs) (hx : Ext hp hp') : H B hp' rs := by
 obtain ⟨S, h⟩ := h
 exact ⟨S, h.loc fun k hk => hx.blk k (h.lt k hk)⟩
theorem H.tail {B : Nat} {hp : Heap} {r : Res} {rs : List Res} (h : H B hp (r :: rs)) : H B hp rs := by
 obtain ⟨S, S1, S2, _, h2, _⟩ := h; exact ⟨S2, h2⟩
theorem HS.perm {B : Nat} {hp : Heap} {rs rs' : List Res} (hp' : List.Perm rs rs') : ∀ {S : Nat → Prop}, HS B hp rs S → HS B hp rs' S := by
 induction hp' with
 | nil => exact fun h => h
 | cons r _ ih => rintro S ⟨S1, S2, h1, h2, hd, hS, hb⟩; exact ⟨S1, S2, h1, ih h2, hd, hS, hb⟩
 | swap r r' l =>
  rintro S ⟨S1, S2, h1, ⟨T1, T2, k1, k2, kd, kS, kb⟩, hd, hS, hb⟩
  refine ⟨T1, fun k => S1 k ∨ T2 k, k1, ⟨S1, T2, h1, k2, fun k hk ht => hd k hk ((kS k).2 (.inr ht)), fun _ => Iff.rfl, hb⟩, ?_, ?_, kb⟩
  ·intro k hk hor
   rcases hor with h | h
   ·exact hd k h ((kS k).2 (.inl hk))
   ·exact kd k hk h
  ·intro k
   rw [hS k, kS k]
   constructor
   ·rintro (h | h | h)
    ·exact .inr (.inl h)
    ·exact .inl h
    ·exact .inr (.inr h)
   ·rintro (h | h | h)
    ·exact .inr (.inl h)
    ·exact .inl h
    ·exact .inr (.inr h)
 | trans _ _ ih1 ih2 => exact fun h => ih2 (ih1 h)
theorem H.perm {B : Nat} {hp : Heap} {rs rs' : List Res} (h : H B hp rs) (hp' : List.Perm rs rs') : H B hp rs' := h.imp fun _ h => h.perm hp'
def Upd (r : Res) (hp : Heap) (r' : Res) (hp' : Heap) : Prop :=
  hp.size ≤ hp'.size ∧ ∀ S, r.P hp S → ∃ S', r'.P hp' S' ∧ (∀ k, S' k → S k ∨ hp.size ≤ k) ∧ ∀ k, k < hp.size → ¬ S k → hp'[k]? = hp[k]?
theorem H.upd {B : Nat} {hp hp' : Heap} {r r' : Res} {rs : List Res} (h : H B hp (r :: rs)) (hB : B ≤ hp.size) (u : Upd r hp r' hp') : H B hp' (r' :: rs) ∧ Low B hp hp' := by
 obtain ⟨S, S1, S2, h1, h2, hd, hS, hb⟩ := h
 obtain ⟨hsz, u⟩ := u
 obtain ⟨S', hr', hfr, hk⟩ := u S1 h1
 refine ⟨⟨fun k => S' k ∨ S2 k, S', S2, hr', h2.loc (fun k hk2 => hk k (h2.lt k hk2) (fun h => hd k h hk2)), ?_, fun _ => Iff.rfl, ?_⟩, hsz, ?_⟩
 ·intro k hk' hk2
  rcases hfr k hk' with h | h
  ·exact hd k h hk2
  ·have := h2.lt k hk2; omega
 ·intro k hk'
  rcases hfr k hk' with h | h
  ·exact hb k h
  ·omega
 ·intro k hkB
  exact hk k (by omega) (fun h => by have := hb k h; omega)
def New (r : Res) (hp hp' : Heap) : Prop := Ext hp hp' ∧ ∃ S, r.P hp' S ∧ ∀ k, S k → hp.size ≤ k
theorem H.new {B : Nat} {hp hp' : Heap} {r : Res} {rs : List Res} (h : H B hp rs) (hB : B ≤ hp.size) (n : New r hp hp') : H B hp' (r :: rs) ∧ Low B hp hp' := by
 obtain ⟨S, h⟩ := h
 obtain ⟨hx, S1, h1, hk⟩ := n
 refine ⟨⟨fun k => S1 k ∨ S k, S1, S, h1, h.loc fun k hk => hx.blk k (h.lt k hk), fun k h1 h2 => ?_, fun _ => Iff.rfl, fun k h1 => Nat.le_trans hB (hk k h1)⟩, hx.mono hB⟩
 have := hk k h1; have := h.lt k h2; omega
theorem H.join {B : Nat} {hp hp' : Heap} {rs rs' : List Res} (h : H B hp rs) (hB : B ≤ hp.size) (hx : Ext hp hp') (h' : H hp.size hp' rs') : H B hp' (rs' ++ rs) := by
 obtain ⟨S, h⟩ := h
 obtain ⟨S', h'⟩ := h'
 have hl := h.loc (hp' := hp') fun k hk => hx.blk k (h.lt k hk)
 have key : ∀ {rs' : List Res} {S' : Nat → Prop}, HS hp.size hp' rs' S' → HS B hp' (rs' ++ rs) (fun k => S' k ∨ S k) := by
  intro rs'
  induction rs' with
  | nil => intro S' h'; exact hl.iff fun k => ⟨fun hk => hk.resolve_left (h' k), .inr⟩
  | cons r rs' ih =>
   rintro S' ⟨S1, S2, h1, h2, hd, hS, hb⟩
   refine ⟨S1, fun k => S2 k ∨ S k, h1, ih h2, ?_, ?_, fun k hk => Nat.le_trans hB (hb k hk)⟩
   ·intro k hk hor
    rcases hor with h0 | h0
    ·exact hd k hk h0
    ·have := hb k hk; have := h.lt k h0; omega
   ·intro k
    simp only [hS k, or_assoc]
 exact ⟨_, key h'⟩
def starR (a b : Res) : Res where
  P h S := ∃ S1 S2, a.P h S1 ∧ b.P h S2 ∧ (∀ k, S1 k → ¬ S2 k) ∧ ∀ k, S k ↔ S1 k ∨ S2 k
  loc := by
    rintro h h' S ⟨S1, S2, h1, h2, hd, hS⟩ he
    exact ⟨S1, S2, a.loc h1 (fun k hk => he k ((hS k).2 (.inl hk))), b.loc h2 (fun k hk => he k ((hS k).2 (.inr hk))), hd, hS⟩
  lt := by
    rintro h S ⟨S1, S2, h1, h2, hd, hS⟩ k hk
    rcases (hS k).1 hk with h | h
    · exact a.lt h1 k h
    · exact b.lt h2 k h
def exR {α : Type} (f : α → Res) : Res where
  P h S := ∃ x, (f x).P h S
  loc := by rintro h h' S ⟨x, hx⟩ he; exact ⟨x, (f x).loc hx he⟩
  lt := by rintro h S ⟨x, hx⟩; exact (f x).lt hx
def andR (p : Prop) (r : Res) : Res where
  P h S := p ∧ r.P h S
  loc := by rintro h h' S ⟨hp, hx⟩ he; exact ⟨hp, r.loc hx he⟩
  lt := by rintro h S ⟨_, hx⟩; exact r.lt hx
def emp : Res where
  P _ S := ∀ k, ¬ S k
  loc := fun h _ => h
  lt := fun h k hk => absurd hk (h k)
theorem H.star {B : Nat} {hp : Heap} {a b : Res} {rs : List Res} : H B hp (starR a b :: rs) ↔ H B hp (a :: b :: rs) := by
 constructor
 ·rintro ⟨S, S1, S2, ⟨T1, T2, t1, t2, td, tS⟩, h2, hd, hS, hb⟩
  refine ⟨S, T1, fun k => T2 k ∨ S2 k, t1, ⟨T2, S2, t2, h2, fun k hk => hd k ((tS k).2 (.inr hk)), fun _ => Iff.rfl, fun k hk => hb k ((tS k).2 (.inr hk))⟩, ?_, ?_, fun k hk => hb k ((tS k).2 (.inl hk))⟩
  ·rintro k hk (h | h)
   ·exact td k hk h
   ·exact hd k ((tS k).2 (.inl hk)) h
  ·intro k; simp only [hS k, tS k, or_assoc]
 ·rintro ⟨S, T1, S', t1, ⟨T2, S2, t2, h2, td2, tS2, tb2⟩, hd, hS, hb⟩
  refine ⟨S, fun k => T1 k ∨ T2 k, S2, ⟨T1, T2, t1, t2, fun k hk h => hd k hk ((tS2 k).2 (.inl h)), fun _ => Iff.rfl⟩, h2, ?_, ?_, ?_⟩
  ·rintro k (h | h) h'
   ·exact hd k h ((tS2 k).2 (.inr h'))
   ·exact td2 k h h'
  ·intro k; simp only [hS k, tS2 k, or_assoc]
  ·rintro k (h | h)
   ·exact hb k h
   ·exact tb2 k h
theorem H.ex {B : Nat} {hp : Heap} {α : Type} {f : α → Res} {rs : List Res} : H B hp (exR f :: rs) ↔ ∃ x, H B hp (f x :: rs) := by
 constructor
 ·rintro ⟨S, S1, S2, ⟨x, hx⟩, r⟩; exact ⟨x, S, S1, S2, hx, r⟩
 ·rintro ⟨x, S, S1, S2, hx, r⟩; exact ⟨S, S1, S2, ⟨x, hx⟩, r⟩
theorem H.and {B : Nat} {hp : Heap} {p : Prop} {r : Res} {rs : List Res} : H B hp (andR p r :: rs) ↔ p ∧ H B hp (r :: rs) := by
 constructor
 ·rintro ⟨S, S1, S2, ⟨x, hx⟩, r⟩; exact ⟨x, S, S1, S2, hx, r⟩
 ·rintro ⟨x, S, S1, S2, hx, r⟩; exact ⟨S, S1, S2, ⟨x, hx⟩, r⟩
theorem H.emp {B : Nat} {hp : Heap} {rs : List Res} : H B hp (Bn.emp :: rs) ↔ H B hp rs := by
 constructor
 ·exact H.tail
 ·rintro ⟨S, h⟩
  exact ⟨S, fun _ => False, S, fun _ h => h, h, fun _ h => h.elim, fun k => (or_iff_right (fun h => h)).symm, fun _ h => h.elim⟩
def cellH (hp : Heap) (a : Addr) : Option Value :=
  match hp[a.block]? with
  | some (.cells c _ _) => if a.spot.isSome then none else c[a.off]?
  | _ => none
theorem cell_world (w : World) (a : Addr) : w.cell? a = cellH w.heap a := rfl
def frozenH (hp : Heap) (a : Addr) : Bool :=
  match hp[a.block]? with
  | some (.cells _ _ (lo, hi)) => lo ≤ a.off && a.off < hi
  | _ => false
theorem cellH_lt {hp : Heap} {a : Addr} {v : Value} (h : cellH hp a = some v) : a.block < hp.size := by
 unfold cellH at h
 split at h
 ·rename_i hh; exact (Array.getElem?_eq_some_iff.1 hh).1
 ·cases h
theorem cellH_ext {hp hp' : Heap} {a : Addr} {v : Value} (hx : Ext hp hp') (h : cellH hp a = some v) : cellH hp' a = some v := by
 have := cellH_lt h
 unfold cellH at *
 rw [hx.blk _ this]; exact h
def pt (p : Nat) (T : TypeId) (cs : List Value) : Res where
  P h S := (∀ k, S k ↔ k = p) ∧ h[p]? = some (.cells cs.toArray T (0, 0))
  loc := by rintro h h' S ⟨hS, hx⟩ he; exact ⟨hS, by rw [he p ((hS p).2 rfl)]; exact hx⟩
  lt := by rintro h S ⟨hS, hx⟩ k hk; rw [(hS k).1 hk]; exact (Array.getElem?_eq_some_iff.1 hx).1
def setH (hp : Heap) (a : Addr) (v : Value) : Heap :=
  hp.modify a.block fun
    | .cells c elem frozen => .cells (if a.spot.isSome then c else c.setIfInBounds a.off v) elem frozen
    | o => o
theorem setH_size (hp : Heap) (a : Addr) (v : Value) : (setH hp a v).size = hp.size := by simp [setH]
theorem setH_other (hp : Heap) (a : Addr) (v : Value) (k : Nat) (hk : k ≠ a.block) : (setH hp a v)[k]? = hp[k]? := by
 simp only [setH, Array.getElem?_modify]; rw [if_neg (Ne.symm hk)]
theorem setH_same {hp : Heap} {p i : Nat} {cs : Array Value} {T : TypeId} {fr : Nat × Nat} (v : Value) (h : hp[p]? = some (.cells cs T fr)) : (setH hp ⟨p, i, none⟩ v)[p]? = some (.cells (cs.setIfInBounds i v) T fr) := by
 simp [setH, Array.getElem?_modify, h]
theorem upd_pt {p i : Nat} {T : TypeId} {cs : List Value} {hp : Heap} (v : Value) : Upd (pt p T cs) hp (pt p T (cs.set i v)) (setH hp ⟨p, i, none⟩ v) := by
 refine ⟨by rw [setH_size]; exact Nat.le_refl _, fun S ⟨hS, h⟩ => ⟨S, ⟨hS, ?_⟩, fun k hk => .inl hk, fun k _ hk => setH_other _ _ _ _ (fun e => hk ((hS k).2 e))⟩⟩
 rw [setH_same v h]
 simp
theorem new_pt {T : TypeId} {cs : List Value} (hp : Heap) : New (pt hp.size T cs) hp (hp.push (.cells cs.toArray T)) := by
 refine ⟨⟨by simp, fun k hk => by rw [Array.getElem?_push]; rw [if_neg (by omega)]⟩, fun k => k = hp.size, ⟨fun _ => Iff.rfl, by simp⟩, fun k hk => by omega⟩
def unfrozen (n : Nat) (fr : Nat × Nat) : Prop := fr.1 = fr.2 ∨ n ≤ fr.1
theorem unfrozen.free {n : Nat} {fr : Nat × Nat} (h : unfrozen n fr) : ∀ i, i < n → ¬ (fr.1 ≤ i ∧ i < fr.2) := by
 intro i hi hh; rcases h with h | h <;> omega
def RowAt (e : TypeId) (sz : Nat) (v : Value) (vs : List Value) (h : Heap) (S : Nat → Prop) : Prop :=
  (v = .slice none 0 0 ∧ vs = [] ∧ ∀ k, ¬ S k) ∨
  ∃ g n cap cur fr, v = .slice (some ⟨g, 0, none⟩) n cap ∧ h[g]? = some (.cells cur e fr) ∧ n ≤ cap ∧ cap ≤ maxLen ∧ cur.size = cap * sz ∧ cur.toList.take (n * sz) = vs ∧ vs.length = n * sz ∧ unfrozen cur.size fr ∧ ∀ k, S k ↔ k = g
def row (e : TypeId) (sz : Nat) (v : Value) (vs : List Value) : Res where
  P := RowAt e sz v vs
  loc := by
    rintro h h' S (⟨h1, h2, h3⟩ | ⟨g, n, cap, cur, fr, h1, h2, h3, h4, h5, h6, h7, h8, hS⟩) he
    · exact .inl ⟨h1, h2, h3⟩
    · exact .inr ⟨g, n, cap, cur, fr, h1, by rw [he g ((hS g).2 rfl)]; exact h2, h3, h4, h5, h6, h7, h8, hS⟩
  lt := by
    rintro h S (⟨h1, h2, h3⟩ | ⟨g, n, cap, cur, fr, h1, h2, h3, h4, h5, h6, h7, h8, hS⟩) k hk
    · exact absurd hk (h3 k)
    · rw [(hS k).1 hk]; exact (Array.getElem?_eq_some_iff.1 h2).1
def Rd (hp : Heap) (A : Option Addr) (vs : List Value) : Prop :=
  vs = [] ∨ ∃ b o, A = some ⟨b, o, none⟩ ∧ ∀ i u, vs[i]? = some u → cellH hp ⟨b, o + i, none⟩ = some u
theorem Rd.nil (hp : Heap) (A : Option Addr) : Rd hp A [] := .inl rfl
theorem Rd.at_ {hp : Heap} {A : Option Addr} {vs : List Value} (h : Rd hp A vs) (hl : 0 < vs.length) : ∃ b o, A = some ⟨b, o, none⟩ ∧ ∀ i u, vs[i]? = some u → cellH hp ⟨b, o + i, none⟩ = some u := by
 rcases h with rfl | h
 ·simp at hl
 ·exact h
theorem Rd.ext {hp hp' : Heap} {A : Option Addr} {vs : List Value} (h : Rd hp A vs) (hx : Ext hp hp') : Rd hp' A vs := by
 rcases h with h | ⟨b, o, hA, hc⟩
 ·exact .inl h
 ·exact .inr ⟨b, o, hA, fun i u hu => cellH_ext hx (hc i u hu)⟩
theorem Rd.take {hp : Heap} {A : Option Addr} {vs : List Value} (h : Rd hp A vs) (n : Nat) : Rd hp A (vs.take n) := by
 rcases h with rfl | ⟨b, o, hA, hc⟩
 ·exact .inl (by simp)
 ·refine .inr ⟨b, o, hA, fun i u hu => hc i u ?_⟩
  rw [List.getElem?_take] at hu
  split at hu
  ·exact hu
  ·cases hu
theorem RowAt.rd {e : TypeId} {sz : Nat} {v : Value} {vs : List Value} {h : Heap} {S : Nat → Prop} (hr : RowAt e sz v vs h S) : ∃ A n c, v = .slice A n c ∧ vs.length = n * sz ∧ n ≤ c ∧ c ≤ maxLen ∧ Rd h A vs := by
 rcases hr with ⟨rfl, rfl, _⟩ | ⟨g, n, cap, cur, fr, rfl, h2, h3, h4, h5, h6, h7, h8, hS⟩
 ·exact ⟨none, 0, 0, rfl, by simp, Nat.le_refl _, by simp [maxLen], .inl rfl⟩
 ·refine ⟨_, n, cap, rfl, h7, h3, h4, .inr ⟨g, 0, rfl, fun i u hu => ?_⟩⟩
  simp only [cellH, h2, Nat.zero_add]
  rw [← h6, List.getElem?_take] at hu
  split at hu
  ·simpa using hu
  ·cases hu
theorem perm_set : ∀ {rs : List Res} {j : Nat} {r : Res}, rs[j]? = some r → List.Perm rs (r :: rs.eraseIdx j) ∧ ∀ r', List.Perm (r' :: rs.eraseIdx j) (rs.set j r')
 | [], _, _, h => by simp at h
 | x :: rs, 0, r, h => by
  simp at h; subst h
  exact ⟨List.Perm.refl _, fun r' => List.Perm.refl _⟩
 | x :: rs, j + 1, r, h => by
  obtain ⟨h1, h2⟩ := perm_set (rs := rs) (j := j) (r := r) (by simpa using h)
  refine ⟨?_, fun r' => ?_⟩
  ·simp only [List.eraseIdx_cons_succ]
   exact (h1.cons x).trans (List.Perm.swap _ _ _)
  ·simp only [List.eraseIdx_cons_succ, List.set_cons_succ]
   exact (List.Perm.swap _ _ _).trans ((h2 r').cons x)
structure St (B : Nat) (h0 hp : Heap) (rs : List Res) : Prop where
  low : Low B h0 hp
  base : B ≤ h0.size
  own : H B hp rs
theorem St.here {B : Nat} {h0 hp : Heap} {rs : List Res} (s : St B h0 hp rs) : St B hp hp rs := ⟨Low.refl _ _, Nat.le_trans s.base s.low.size, s.own⟩
theorem St.start (hp : Heap) : St hp.size hp hp [] := ⟨Low.refl _ _, Nat.le_refl _, H.nil _ _⟩
theorem St.trans {B : Nat} {h0 hp hp' : Heap} {rs rs' : List Res} (s : St B h0 hp rs) (t : St B hp hp' rs') : St B h0 hp' rs' := ⟨s.low.trans t.low, s.base, t.own⟩
theorem St.ext {B : Nat} {h0 hp hp' : Heap} {rs : List Res} (s : St B h0 hp rs) (hx : Ext hp hp') : St B h0 hp' rs := ⟨s.low.then_ext s.base hx, s.base, s.own.ext hx⟩
theorem St.join {B : Nat} {h0 hp hp' : Heap} {rs rs' : List Res} (s : St B h0 hp rs) (t : St hp.size hp hp' rs') : St B h0 hp' (rs' ++ rs) :=
 ⟨s.low.then_ext s.base t.low, s.base, s.own.join (Nat.le_trans s.base s.low.size) t.low t.own⟩
theorem St.perm {B : Nat} {h0 hp : Heap} {rs rs' : List Res} (s : St B h0 hp rs) (h : List.Perm rs rs') : St B h0 hp rs' := ⟨s.low, s.base, s.own.perm h⟩
theorem St.tail {B : Nat} {h0 hp : Heap} {r : Res} {rs : List Res} (s : St B h0 hp (r :: rs)) : St B h0 hp rs := ⟨s.low, s.base, s.own.tail⟩
theorem St.drop {B : Nat} {h0 hp : Heap} {rs : List Res} (s : St B h0 hp rs) : St B h0 hp [] := ⟨s.low, s.base, H.nil _ _⟩
theorem St.at_ {B : Nat} {h0 hp : Heap} {rs : List Res} (s : St B h0 hp rs) {j : Nat} {r : Res} (hj : rs[j]? = some r) : ∃ S, r.P hp S ∧ ∀ k, S k → B ≤ k := by
 obtain ⟨S, S1, S2, h1, _, _, _, hb⟩ := s.own.perm (perm_set hj).1
 exact ⟨S1, h1, hb⟩
theorem St.upd {B : Nat} {h0 hp hp' : Heap} {rs : List Res} (s : St B h0 hp rs) {j : Nat} {r r' : Res} (hj : rs[j]? = some r) (u : Upd r hp r' hp') : St B h0 hp' (rs.set j r') := by
 obtain ⟨h1, h2⟩ := (s.own.perm (perm_set hj).1).upd (Nat.le_trans s.base s.low.size) u
 exact ⟨s.low.trans h2, s.base, h1.perm ((perm_set hj).2 r')⟩
theorem St.new {B : Nat} {h0 hp hp' : Heap} {rs : List Res} (s : St B h0 hp rs) {r : Res} (n : New r hp hp') : St B h0 hp' (r :: rs) := by
 obtain ⟨h1, h2⟩ := s.own.new (Nat.le_trans s.base s.low.size) n
 exact ⟨s.low.trans h2, s.base, h1⟩
theorem St.cell {B : Nat} {h0 hp : Heap} {rs : List Res} (s : St B h0 hp rs) (j : Nat) {p i : Nat} {T : TypeId} {cs : List Value} {v : Value} (hj : rs[j]? = some (pt p T cs)) (hv : cs[i]? = some v) : cellH hp ⟨p, i, none⟩ = some v := by
 obtain ⟨S, h, _⟩ := s.at_ hj
 simp [cellH, h.2, hv]
theorem St.row {B : Nat} {h0 hp : Heap} {rs : List Res} (s : St B h0 hp rs) (j : Nat) {e sz : Nat} {v : Value} {vs : List Value} (hj : rs[j]? = some (row e sz v vs)) :
  ∃ A n c, v = .slice A n c ∧ vs.length = n * sz ∧ n ≤ c ∧ c ≤ maxLen ∧ Rd hp A vs := by
 obtain ⟨S, h, _⟩ := s.at_ hj
 exact h.rd
theorem St.rdS {B : Nat} {h0 hp : Heap} {rs : List Res} (s : St B h0 hp rs) (j : Nat) {e sz n c : Nat} {A : Option Addr} {vs : List Value} (hj : rs[j]? = some (Bn.row e sz (.slice A n c) vs)) : vs.length = n * sz ∧ Rd hp A vs := by
 obtain ⟨A', n', c', he, h1, _, _, h2⟩ := s.row j hj
 cases he
 exact ⟨h1, h2⟩
theorem St.star {B : Nat} {h0 hp : Heap} {a b : Res} {rs : List Res} : St B h0 hp (starR a b :: rs) ↔ St B h0 hp (a :: b :: rs) :=
 ⟨fun s => ⟨s.low, s.base, H.star.1 s.own⟩, fun s => ⟨s.low, s.base, H.star.2 s.own⟩⟩
theorem St.ex {B : Nat} {h0 hp : Heap} {α : Type} {f : α → Res} {rs : List Res} : St B h0 hp (exR f :: rs) ↔ ∃ x, St B h0 hp (f x :: rs) :=
 ⟨fun s => (H.ex.1 s.own).imp fun _ h => ⟨s.low, s.base, h⟩, fun ⟨x, s⟩ => ⟨s.low, s.base, H.ex.2 ⟨x, s.own⟩⟩⟩
theorem St.and {B : Nat} {h0 hp : Heap} {p : Prop} {r : Res} {rs : List Res} : St B h0 hp (andR p r :: rs) ↔ p ∧ St B h0 hp (r :: rs) :=
 ⟨fun s => ⟨(H.and.1 s.own).1, s.low, s.base, (H.and.1 s.own).2⟩, fun ⟨h, s⟩ => ⟨s.low, s.base, H.and.2 ⟨h, s.own⟩⟩⟩
theorem St.emp {B : Nat} {h0 hp : Heap} {rs : List Res} : St B h0 hp (Bn.emp :: rs) ↔ St B h0 hp rs :=
 ⟨fun s => ⟨s.low, s.base, H.emp.1 s.own⟩, fun s => ⟨s.low, s.base, H.emp.2 s.own⟩⟩
end Go.Bn
end

section
namespace Go.Bn
open Go
section
variable {P : Program} {E : Env} {hp : Heap} {cl : Cls} {d : Option Tmp} {ty : TypeId} {pos : String} {af : Array Edge} {g : Option (Nat × Bool)}
theorem op_move {x : Operand} {v : Value} (hx : ev E x = some v) : Op1 cl P ⟨d, .move x, ty, pos, af, g⟩ E hp v :=
 .of_pure fun n a ho w' => by simp [execOp, ho.eval hx]
theorem op_assign {x : Operand} {v : Value} (hx : ev E x = some v) : Op1 cl P ⟨d, .assign x, ty, pos, af, g⟩ E hp v :=
 .of_pure fun n a ho w' => by simp [execOp, ho.eval hx]
theorem op_pick_t {c x y : Operand} {v : Value} (hc : ev E c = some (.bool true)) (hx : ev E x = some v) : Op1 cl P ⟨d, .pick c x y, ty, pos, af, g⟩ E hp v :=
 .of_pure fun n a ho w' => by simp [execOp, ho.eval hc, ho.eval hx, asBool]
theorem op_pick_f {c x y : Operand} {v : Value} (hc : ev E c = some (.bool false)) (hy : ev E y = some v) : Op1 cl P ⟨d, .pick c x y, ty, pos, af, g⟩ E hp v :=
 .of_pure fun n a ho w' => by simp [execOp, ho.eval hc, ho.eval hy, asBool]
theorem op_nilCheck {x : Operand} {ad : Addr} (hx : ev E x = some (.pointer (some ad))) : Op1 cl P ⟨d, .nilCheck x, ty, pos, af, g⟩ E hp (.pointer (some ad)) :=
 .of_pure fun n a ho w' => by simp [execOp, ho.eval hx]
theorem op_extract {x : Operand} {i : Nat} {vs : Array Value} {v : Value} (hx : ev E x = some (.tuple vs)) (hv : vs[i]? = some v) : Op1 cl P ⟨d, .extract x i, ty, pos, af, g⟩ E hp v :=
 .of_pure fun n a ho w' => by simp [execOp, ho.eval hx, Instr.extract, hv]
def fieldOff (P : Program) (s : TypeId) (f : Nat) : Option Nat :=
  match P.underlying s with
  | some (.struct fs) => match fs[f]? with
    | some ⟨_, t, off, _, _, _, _⟩ => match P.info? t with
      | some i => match Nat.beq i.size 0 with | true => none | false => some off
      | none => none
    | none => none
  | _ => none
theorem addr_add (b o n : Nat) : (⟨b, o, none⟩ : Addr).add n = ⟨b, o + n, none⟩ := by unfold Addr.add; split <;> simp_all
theorem run_fieldAt {s f off : Nat} {ad : Addr} (hf : fieldOff P s f = some off) (w : World) : (Instr.fieldAt s (.pointer (some ad)) f).run P w = .ok (.pointer (some (ad.add off))) w := by
 unfold fieldOff at hf
 split at hf
 ·rename_i fs hu
  split at hf
  ·rename_i t off' hfs
   split at hf
   ·rename_i i hi
    split at hf
    ·cases hf
    ·rename_i hb
     cases hf
     have : i.size ≠ 0 := Nat.ne_of_beq_eq_false hb
     simp [Instr.fieldAt, run_underlying hu, hfs, Instr.sureAddr, fieldPlace, sizeOf, typeInfo, hi, this]
   ·cases hf
  ·cases hf
 ·cases hf
theorem op_field0 {x : Operand} {s f off b : Nat} (hx : ev E x = some (.pointer (some ⟨b, 0, none⟩))) (hf : fieldOff P s f = some off) : Op1 cl P ⟨d, .fieldAddr s x f, ty, pos, af, g⟩ E hp (.pointer (some ⟨b, off, none⟩)) :=
 .of_pure fun n a ho w' => by simp [execOp, ho.eval hx, run_fieldAt hf w', addr_add]
theorem op_fieldn {x : Operand} {s f off b o : Nat} (hx : ev E x = some (.pointer (some ⟨b, o, none⟩))) (hf : fieldOff P s f = some off) : Op1 cl P ⟨d, .fieldAddr s x f, ty, pos, af, g⟩ E hp (.pointer (some ⟨b, o + off, none⟩)) :=
 .of_pure fun n a ho w' => by simp [execOp, ho.eval hx, run_fieldAt hf w', addr_add]
def sliceEl (P : Program) (t : TypeId) : Option Nat :=
  match P.underlying t with
  | some (.slice e) => match P.info? e with
    | some { size := s, .. } => some s
    | none => none
  | _ => none
def arrayEl (P : Program) (t : TypeId) : Option (Nat × Nat) :=
  match P.underlying t with
  | some (.array n e) => match P.info? e with
    | some { size := s, .. } => some (n, s)
    | none => none
  | _ => none
theorem sliceEl_spec {P : Program} {t sz : Nat} (h : sliceEl P t = some sz) : ∃ e i, P.underlying t = some (.slice e) ∧ P.info? e = some i ∧ i.size = sz := by
 unfold sliceEl at h
 split at h
 ·rename_i e hu
  split at h
  ·rename_i hi; cases h; exact ⟨e, _, hu, hi, rfl⟩
  ·cases h
 ·cases h
theorem arrayEl_spec {P : Program} {t n sz : Nat} (h : arrayEl P t = some (n, sz)) : ∃ e i, P.underlying t = some (.array n e) ∧ P.info? e = some i ∧ i.size = sz := by
 unfold arrayEl at h
 split at h
 ·rename_i e hu
  split at h
  ·rename_i hi; cases h; exact ⟨_, _, hu, hi, rfl⟩
  ·cases h
 ·cases h
theorem op_index {x y : Operand} {t sz b o n c : Nat} {k : IntKind} {i : Nat} (hx : ev E x = some (.slice (some ⟨b, o, none⟩) n c)) (hy : ev E y = some (.int k (i : Int))) (ht : sliceEl P t = some sz) (hi : i < n) :
  Op1 cl P ⟨d, .indexAddr t x y, ty, pos, af, g⟩ E hp (.pointer (some ⟨b, o + i * sz, none⟩)) :=
 .of_pure fun _ a ho w' => by
  obtain ⟨e, ii, hu, hii, rfl⟩ := sliceEl_spec ht
  simp [execOp, ho.eval hx, ho.eval hy, Instr.indexAt, asIntOf, run_underlying hu, sizeOf, typeInfo, hii, addr_add, hi]
theorem op_index1 {x y : Operand} {t b o n c : Nat} {k : IntKind} {i : Nat} (hx : ev E x = some (.slice (some ⟨b, o, none⟩) n c)) (hy : ev E y = some (.int k (i : Int))) (ht : sliceEl P t = some 1) (hi : i < n) :
  Op1 cl P ⟨d, .indexAddr t x y, ty, pos, af, g⟩ E hp (.pointer (some ⟨b, o + i, none⟩)) := by
 have := op_index (cl := cl) (hp := hp) (d := d) (ty := ty) (pos := pos) (af := af) (g := g) hx hy ht hi
 rwa [Nat.mul_one] at this
theorem op_indexA {x y : Operand} {t sz b o len : Nat} {k : IntKind} {i : Nat} (hx : ev E x = some (.pointer (some ⟨b, o, none⟩))) (hy : ev E y = some (.int k (i : Int))) (ht : arrayEl P t = some (len, sz)) (hi : i < len) :
  Op1 cl P ⟨d, .indexAddr t x y, ty, pos, af, g⟩ E hp (.pointer (some ⟨b, o + i * sz, none⟩)) :=
 .of_pure fun _ a ho w' => by
  obtain ⟨e, ii, hu, hii, rfl⟩ := arrayEl_spec ht
  simp [execOp, ho.eval hx, ho.eval hy, Instr.indexAt, asIntOf, run_underlying hu, sizeOf, typeInfo, hii, addr_add, hi, Instr.sureAddr]
def single (P : Program) (t : TypeId) : Bool :=
  match P.underlying t with
  | some (.struct _) => false
  | some (.array _ _) => false
  | some _ => match P.info? t with
    | some i => Nat.beq i.size 1
    | none => false
  | none => false
def aggN (P : Program) (t : TypeId) : Option Nat :=
  match P.underlying t with
  | some (.struct _) => match P.info? t with
    | some { size := s, .. } => some s
    | none => none
  | some (.array _ _) => match P.info? t with
    | some { size := s, .. } => some s
    | none => none
  | _ => none
theorem run_isAgg_single {t : TypeId} (h : single P t = true) (w : World) : (isAgg t).run P w = .ok false w := by
 unfold single at h
 split at h
 ·cases h
 ·cases h
 ·rename_i dd hn1 hn2 hu
  unfold isAgg
  simp only [Sem.run_bind, run_underlying hu, Result.andThen_ok]
  cases dd <;> first | rfl | (exfalso; first | exact hn1 _ hu | exact hn2 _ _ hu | simp_all)
 ·cases h
theorem run_sizeOf_single {t : TypeId} (h : single P t = true) (w : World) : (sizeOf t).run P w = .ok 1 w := by
 unfold single at h
 split at h
 ·cases h
 ·cases h
 ·split at h
  ·rename_i i hi
   have := Nat.eq_of_beq_eq_true h
   simp [sizeOf, typeInfo, hi, this]
  ·cases h
 ·cases h
theorem run_load_cell {m : Mode} {a : Addr} {v : Value} {w : World} (h : cellH w.heap a = some v) : (Go.load a m).run P w = .ok v w := by
 have : w.cell? a = some v := h
 simp [Go.load, Sem.run, this]
theorem run_loadVar_single {t : TypeId} {a : Addr} {v : Value} {w : World} (ht : single P t = true) (h : cellH w.heap a = some v) : (loadVar t a).run P w = .ok v w := by
 unfold loadVar
 simp only [Sem.run_bind, run_isAgg_single ht, Result.andThen_ok, Bool.false_eq_true, if_false]
 exact run_load_cell h
theorem op_load {x : Operand} {t : TypeId} {ad : Addr} {v : Value} (hx : ev E x = some (.pointer (some ad))) (ht : single P t = true) (hc : cellH hp ad = some v) : Op1 .load P ⟨d, .load t x, ty, pos, af, g⟩ E hp v :=
 fun n a ho w' hx' => by simp [execOp, ho.eval hx, Instr.loadAt, Instr.sureAddr, run_loadVar_single ht (cellH_ext hx' hc)]
theorem run_loadCellsFrom {b o : Nat} {w : World} : ∀ (n i : Nat) (vs : List Value) (acc : Array Value), vs.length = n → (∀ j u, vs[j]? = some u → cellH w.heap ⟨b, o + (i + j), none⟩ = some u) →
  (loadCellsFrom ⟨b, o, none⟩ i n acc).run P w = .ok (acc ++ vs.toArray) w
 | 0, i, vs, acc, hl, _ => by
  obtain rfl : vs = [] := List.eq_nil_of_length_eq_zero hl
  simp [loadCellsFrom]
 | n + 1, i, [], acc, hl, _ => by simp at hl
 | n + 1, i, v :: vs, acc, hl, hc => by
  have h0 := hc 0 v rfl
  simp only [Nat.add_zero] at h0
  unfold loadCellsFrom
  simp only [Sem.run_bind, addr_add, run_load_cell h0, Result.andThen_ok]
  rw [run_loadCellsFrom n (i + 1) vs (acc.push v) (by simpa using hl) (fun j u hu => by
   have := hc (j + 1) u (by simpa using hu)
   rw [show i + 1 + j = i + (j + 1) by omega]; exact this)]
  simp
theorem run_loadVar_agg {t b o n : Nat} {vs : List Value} {w : World} (ht : aggN P t = some n) (hl : vs.length = n) (hc : ∀ j u, vs[j]? = some u → cellH w.heap ⟨b, o + j, none⟩ = some u) :
  (loadVar t ⟨b, o, none⟩).run P w = .ok (.agg vs.toArray) w := by
 have hrow := run_loadCellsFrom (P := P) (w := w) (b := b) (o := o) n 0 vs #[] hl (by simpa using hc)
 unfold aggN at ht
 have key : ∀ dd i, P.underlying t = some dd → P.info? t = some i → i.size = n → (match dd with | .struct _ | .array _ _ => true | _ => false) = true → (loadVar t ⟨b, o, none⟩).run P w = .ok (.agg vs.toArray) w := by
  intro dd i hu hi hs hd
  have hagg : (isAgg t).run P w = .ok true w := by
   unfold isAgg
   simp only [Sem.run_bind, run_underlying hu, Result.andThen_ok]
   cases dd <;> first | rfl | cases hd
  unfold loadVar
  simp only [Sem.run_bind, hagg, Result.andThen_ok, if_true, sizeOf, typeInfo]
  simp [hi, hs, loadCells, hrow]
 split at ht
 ·rename_i fs hu
  split at ht
  ·rename_i hi; cases ht; exact key _ _ hu hi rfl rfl
  ·cases ht
 ·rename_i n' e hu
  split at ht
  ·rename_i hi; cases ht; exact key _ _ hu hi rfl rfl
  ·cases ht
 ·cases ht
theorem op_loadA {x : Operand} {t b o n : Nat} {vs : List Value} (hx : ev E x = some (.pointer (some ⟨b, o, none⟩))) (ht : aggN P t = some n) (hl : vs.length = n) (hc : ∀ j u, vs[j]? = some u → cellH hp ⟨b, o + j, none⟩ = some u) :
  Op1 .load P ⟨d, .load t x, ty, pos, af, g⟩ E hp (.agg vs.toArray) :=
 fun n a ho w' hx' => by simp [execOp, ho.eval hx, Instr.loadAt, Instr.sureAddr, run_loadVar_agg ht hl (fun j u hu => cellH_ext hx' (hc j u hu))]
section
variable {x y : Operand} {t t' : TypeId} {k : IntKind} {a b : Int}
theorem op_add (hx : ev E x = some (.int k a)) (hy : ev E y = some (.int k b)) : Op1 cl P ⟨d, .binOp .add t x y t', ty, pos, af, g⟩ E hp (.int k (k.wrap (a + b))) :=
 .of_pure fun n a ho w' => by simp [execOp, ho.eval hx, ho.eval hy, eqGuard, binOp, Op.intArith]
theorem op_sub (hx : ev E x = some (.int k a)) (hy : ev E y = some (.int k b)) : Op1 cl P ⟨d, .binOp .sub t x y t', ty, pos, af, g⟩ E hp (.int k (k.wrap (a - b))) :=
 .of_pure fun n a ho w' => by simp [execOp, ho.eval hx, ho.eval hy, eqGuard, binOp, Op.intArith]
theorem op_mul (hx : ev E x = some (.int k a)) (hy : ev E y = some (.int k b)) : Op1 cl P ⟨d, .binOp .mul t x y t', ty, pos, af, g⟩ E hp (.int k (k.wrap (a * b))) :=
 .of_pure fun n a ho w' => by simp [execOp, ho.eval hx, ho.eval hy, eqGuard, binOp, Op.intArith]
theorem op_quo (hx : ev E x = some (.int k a)) (hy : ev E y = some (.int k b)) (hb : b ≠ 0) : Op1 cl P ⟨d, .binOp .quo t x y t', ty, pos, af, g⟩ E hp (.int k (k.wrap (a.tdiv b))) :=
 .of_pure fun n a ho w' => by simp [execOp, ho.eval hx, ho.eval hy, eqGuard, binOp, Op.intDiv, hb]
theorem op_rem (hx : ev E x = some (.int k a)) (hy : ev E y = some (.int k b)) (hb : b ≠ 0) : Op1 cl P ⟨d, .binOp .rem t x y t', ty, pos, af, g⟩ E hp (.int k (a.tmod b)) :=
 .of_pure fun n a ho w' => by simp [execOp, ho.eval hx, ho.eval hy, eqGuard, binOp, Op.intDiv, hb]
def bitsOp (op : BinOp) (k : IntKind) (a b : Int) : Int :=
  let x := BitVec.ofInt k.bits a
  let y := BitVec.ofInt k.bits b
  match op with
  | .and => k.wrap (x &&& y).toNat
  | .or => k.wrap (x ||| y).toNat
  | .xor => k.wrap (x ^^^ y).toNat
  | _ => k.wrap (x &&& ~~~y).toNat
theorem op_and (hx : ev E x = some (.int k a)) (hy : ev E y = some (.int k b)) : Op1 cl P ⟨d, .binOp .and t x y t', ty, pos, af, g⟩ E hp (.int k (bitsOp .and k a b)) :=
 .of_pure fun n a ho w' => by simp [execOp, ho.eval hx, ho.eval hy, eqGuard, binOp, Op.intBits, bitsOp]
theorem op_or (hx : ev E x = some (.int k a)) (hy : ev E y = some (.int k b)) : Op1 cl P ⟨d, .binOp .or t x y t', ty, pos, af, g⟩ E hp (.int k (bitsOp .or k a b)) :=
 .of_pure fun n a ho w' => by simp [execOp, ho.eval hx, ho.eval hy, eqGuard, binOp, Op.intBits, bitsOp]
theorem op_shl {k' : IntKind} (hx : ev E x = some (.int k a)) (hy : ev E y = some (.int k' b)) (hb : 0 ≤ b) : Op1 cl P ⟨d, .binOp .shl t x y t', ty, pos, af, g⟩ E hp (.int k (k.wrap (a * 2 ^ (min b.toNat k.bits)))) :=
 .of_pure fun n a ho w' => by simp [execOp, ho.eval hx, ho.eval hy, eqGuard, binOp, Op.shift, Int.not_lt.mpr hb]
theorem op_shr {k' : IntKind} (hx : ev E x = some (.int k a)) (hy : ev E y = some (.int k' b)) (hb : 0 ≤ b) : Op1 cl P ⟨d, .binOp .shr t x y t', ty, pos, af, g⟩ E hp (.int k (a.fdiv (2 ^ (min b.toNat k.bits)))) :=
 .of_pure fun n a ho w' => by simp [execOp, ho.eval hx, ho.eval hy, eqGuard, binOp, Op.shift, Int.not_lt.mpr hb]
theorem op_eql (hx : ev E x = some (.int k a)) (hy : ev E y = some (.int k b)) : Op1 cl P ⟨d, .binOp .eql t x y t', ty, pos, af, g⟩ E hp (.bool (decide (a = b))) :=
 .of_pure fun n a ho w' => by simp [execOp, ho.eval hx, ho.eval hy, eqGuard, binOp, Op.intCmp]; rfl
theorem op_neq (hx : ev E x = some (.int k a)) (hy : ev E y = some (.int k b)) : Op1 cl P ⟨d, .binOp .neq t x y t', ty, pos, af, g⟩ E hp (.bool (decide (a ≠ b))) :=
 .of_pure fun n a ho w' => by simp [execOp, ho.eval hx, ho.eval hy, eqGuard, binOp, Op.intCmp]; rfl
theorem op_lss (hx : ev E x = some (.int k a)) (hy : ev E y = some (.int k b)) : Op1 cl P ⟨d, .binOp .lss t x y t', ty, pos, af, g⟩ E hp (.bool (decide (a < b))) :=
 .of_pure fun n a ho w' => by simp [execOp, ho.eval hx, ho.eval hy, eqGuard, binOp, Op.intCmp]
theorem op_leq (hx : ev E x = some (.int k a)) (hy : ev E y = some (.int k b)) : Op1 cl P ⟨d, .binOp .leq t x y t', ty, pos, af, g⟩ E hp (.bool (decide (a ≤ b))) :=
 .of_pure fun n a ho w' => by simp [execOp, ho.eval hx, ho.eval hy, eqGuard, binOp, Op.intCmp]
theorem op_gtr (hx : ev E x = some (.int k a)) (hy : ev E y = some (.int k b)) : Op1 cl P ⟨d, .binOp .gtr t x y t', ty, pos, af, g⟩ E hp (.bool (decide (b < a))) :=
 .of_pure fun n a ho w' => by simp [execOp, ho.eval hx, ho.eval hy, eqGuard, binOp, Op.intCmp]
theorem op_geq (hx : ev E x = some (.int k a)) (hy : ev E y = some (.int k b)) : Op1 cl P ⟨d, .binOp .geq t x y t', ty, pos, af, g⟩ E hp (.bool (decide (b ≤ a))) :=
 .of_pure fun n a ho w' => by simp [execOp, ho.eval hx, ho.eval hy, eqGuard, binOp, Op.intCmp]
theorem min2_int (a b : Int) : Builtin.min2 (.int k a) (.int k b) = pure (.int k (min a b)) := by
 simp only [Builtin.min2, Int.min_def]
 congr 2
 split <;> split <;> omega
theorem max2_int (a b : Int) : Builtin.max2 (.int k a) (.int k b) = pure (.int k (max a b)) := by
 simp only [Builtin.max2, Int.max_def]
 congr 2
 split <;> split <;> omega
theorem op_min2 (hx : ev E x = some (.int k a)) (hy : ev E y = some (.int k b)) {ts : Array TypeId} : Op1 cl P ⟨d, .call ⟨.builtin .min, #[x, y], ts⟩, ty, pos, af, g⟩ E hp (.int k (min a b)) :=
 .of_pure fun n a' ho w' => by
  simp [execOp, resolve, ho.eval hx, ho.eval hy, invoke, builtin, Builtin.min_, min2_int]
theorem op_max2 (hx : ev E x = some (.int k a)) (hy : ev E y = some (.int k b)) {ts : Array TypeId} : Op1 cl P ⟨d, .call ⟨.builtin .max, #[x, y], ts⟩, ty, pos, af, g⟩ E hp (.int k (max a b)) :=
 .of_pure fun n a' ho w' => by
  simp [execOp, resolve, ho.eval hx, ho.eval hy, invoke, builtin, Builtin.max_, max2_int]
end
end
theorem XV {c : Cx} {cs : CF} {ops : Array Oper} {k : List SItem} {E : Env} {hp : Heap} {i : Nat} {d : Tmp} {x : Operand} {ty : TypeId} {pos : String} {af : Array Edge} {g : Option (Nat × Bool)} {rest : List (Nat × Oper)} {v : Value} (hx : ev E x = some v) (hf : Nat.blt d c.fn.ntmps = true) (hw : wantedE ops E ⟨some d, .move x, ty, pos, af, g⟩ = some true) (h : XR c cs ops rest k ((d, v) :: E) hp) : XR c cs ops ((i, ⟨some d, .move x, ty, pos, af, g⟩) :: rest) k E hp := XR_a (op_move hx) hf hw h
theorem XA {c : Cx} {cs : CF} {ops : Array Oper} {k : List SItem} {E : Env} {hp : Heap} {i : Nat} {d : Tmp} {x : Operand} {ty : TypeId} {pos : String} {af : Array Edge} {g : Option (Nat × Bool)} {rest : List (Nat × Oper)} {v : Value} (hx : ev E x = some v) (hf : Nat.blt d c.fn.ntmps = true) (hw : wantedE ops E ⟨some d, .assign x, ty, pos, af, g⟩ = some true) (h : XR c cs ops rest k ((d, v) :: E) hp) : XR c cs ops ((i, ⟨some d, .assign x, ty, pos, af, g⟩) :: rest) k E hp := XR_a (op_assign hx) hf hw h
end Go.Bn
end

section
namespace Go.Bn
open Go
def byteV (b : UInt8) : Value := .int .u8 (b.toNat : Int)
def str (l : List UInt8) : ByteArray := ⟨l.toArray⟩
theorem str_toList (l : List UInt8) : (str l).toList = l := by
 have h : ∀ (b : ByteArray), b.toList = b.data.toList := fun b => by
  have key : ∀ (n i : Nat) (acc : List UInt8), b.size - i = n → ByteArray.toList.loop b i acc = acc.reverse ++ b.data.toList.drop i := by
   intro n
   induction n with
   | zero =>
    intro i acc hn
    unfold ByteArray.toList.loop
    have hlen : b.data.toList.length = b.size := by rw [Array.length_toList]; rfl
    rw [if_neg (by omega), List.drop_eq_nil_of_le (by omega)]; simp
   | succ n ih =>
    intro i acc hn
    have hi : i < b.size := by omega
    have hlen : b.data.toList.length = b.size := by rw [Array.length_toList]; rfl
    unfold ByteArray.toList.loop
    rw [if_pos hi, ih (i + 1) _ (by omega)]
    rw [List.drop_eq_getElem_cons (show i < b.data.toList.length by omega)]
    simp only [List.reverse_cons, List.append_assoc, List.singleton_append]
    congr 2
    rw [Array.getElem_toList]
    have hg : b.get! i = b.data[i]! := rfl
    rw [hg]
    exact getElem!_pos b.data i hi
  have := key b.size 0 [] rfl
  simpa [ByteArray.toList] using this
 rw [h]; simp [str]
section
variable {P : Program} {E : Env} {hp : Heap} {cl : Cls} {d : Option Tmp} {ty : TypeId} {pos : String} {af : Array Edge} {g : Option (Nat × Bool)}
variable {x y : Operand} {t t' : TypeId}
theorem op_not {b : Bool} (hx : ev E x = some (.bool b)) : Op1 cl P ⟨d, .unOp .not t x, ty, pos, af, g⟩ E hp (.bool (!b)) :=
 .of_pure fun n a ho w' => by simp [execOp, ho.eval hx, Op.unary]
theorem op_notd {p : Prop} [Decidable p] (hx : ev E x = some (.bool (decide p))) : Op1 cl P ⟨d, .unOp .not t x, ty, pos, af, g⟩ E hp (.bool (decide ¬ p)) :=
 .of_pure fun n a ho w' => by simp [execOp, ho.eval hx, Op.unary]
theorem beq_dec (a b : List UInt8) : (a == b) = decide (a = b) := by rw [Bool.eq_iff_iff]; simp
theorem op_eqlS {a b : List UInt8} (hx : ev E x = some (.string (str a))) (hy : ev E y = some (.string (str b))) : Op1 cl P ⟨d, .binOp .eql t x y t', ty, pos, af, g⟩ E hp (.bool (decide (a = b))) :=
 .of_pure fun n a' ho w' => by simp [execOp, ho.eval hx, ho.eval hy, eqGuard, binOp, Op.stringOp, str_toList, beq_dec]
theorem op_neqS {a b : List UInt8} (hx : ev E x = some (.string (str a))) (hy : ev E y = some (.string (str b))) : Op1 cl P ⟨d, .binOp .neq t x y t', ty, pos, af, g⟩ E hp (.bool (decide (a ≠ b))) :=
 .of_pure fun n a' ho w' => by simp [execOp, ho.eval hx, ho.eval hy, eqGuard, binOp, Op.stringOp, str_toList, beq_dec]
theorem pointee_of {e : TypeId} (hu : P.underlying t = some (.pointer e)) : P.underlying t = some (.pointer (P.pointee t)) := by
 rw [hu]; simp [Program.pointee, hu]
theorem op_ptr_nil {p : Option Addr} {e : TypeId} (hx : ev E x = some (.pointer p)) (hy : ev E y = some (.pointer none)) (hu : P.underlying t = some (.pointer e)) : Op1 cl P ⟨d, .binOp .eql t x y t', ty, pos, af, g⟩ E hp (.bool p.isNone) :=
 .of_pure fun n a' ho w' => by
  simp only [execOp, ho.eval hx, ho.eval hy, eqGuard]
  simp [run_eql_pointer_nil w' t p (pointee_of hu)]
theorem op_ptr_nnil {p : Option Addr} {e : TypeId} (hx : ev E x = some (.pointer p)) (hy : ev E y = some (.pointer none)) (hu : P.underlying t = some (.pointer e)) : Op1 cl P ⟨d, .binOp .neq t x y t', ty, pos, af, g⟩ E hp (.bool (!p.isNone)) :=
 .of_pure fun n a' ho w' => by
  simp only [execOp, ho.eval hx, ho.eval hy, eqGuard]
  simp [run_neq_pointer_nil w' t p (pointee_of hu)]
def convI (P : Program) (src dst : TypeId) : Option IntKind :=
  match P.underlying src, P.underlying dst with
  | some _, some (.int k) => some k
  | _, _ => none
theorem op_conv {k k' : IntKind} {a : Int} (hx : ev E x = some (.int k a)) (hc : convI P t t' = some k') : Op1 cl P ⟨d, .convert t t' x, ty, pos, af, g⟩ E hp (.int k' (k'.wrap a)) :=
 .of_pure fun n a ho w' => by
  unfold convI at hc
  split at hc
  ·rename_i h1 h2
   cases hc
   simp [execOp, ho.eval hx, convert, run_underlying h1, run_underlying h2, Conv.intToInt]
  ·cases hc
def isSliceT (P : Program) (t : TypeId) : Bool := match P.underlying t with | some (.slice _) => true | _ => false
def isStrT (P : Program) (t : TypeId) : Bool := match P.underlying t with | some .string => true | _ => false
theorem op_len {A : Option Addr} {n c : Nat} (hx : ev E x = some (.slice A n c)) (ht : isSliceT P t = true) {ts : Array TypeId} (hts : ts = #[t]) : Op1 cl P ⟨d, .call ⟨.builtin .len, #[x], ts⟩, ty, pos, af, g⟩ E hp (.int .i64 (n : Int)) :=
 .of_pure fun n a ho w' => by
  subst hts
  unfold isSliceT at ht
  split at ht
  ·rename_i h; simp [execOp, resolve, ho.eval hx, invoke, builtin, Builtin.len_, run_underlying h, goInt]
  ·cases ht
def Value.one : Value → Bool
  | .agg _ => false
  | .tuple _ => false
  | _ => true
theorem run_store_cell {m : Mode} {a : Addr} {v u : Value} {w : World} (h1 : Value.one v = true) (h : cellH w.heap a = some u) (hf : frozenH w.heap a = false) : (Go.store a v m).run P w = .ok () (w.setCell a v) := by
 have h' : w.cell? a = some u := h
 have hf' : w.frozen? a = false := hf
 cases v <;> first | (cases h1; done) | simp [Go.store, Sem.run, h', hf']
theorem Value.one_cells {v : Value} (h : Value.one v = true) : v.cells = #[v] := by cases v <;> first | rfl | (cases h; done)
theorem addr_zero (a : Addr) : a.add 0 = a := by simp [Addr.add]
theorem opl_store {ad : Addr} {v u : Value} (hx : ev E x = some (.pointer (some ad))) (hy : ev E y = some v) (ht : single P t = true) (h1 : Value.one v = true) (hc : cellH hp ad = some u) (hf : frozenH hp ad = false) :
  OpL P ⟨d, .store t x y, ty, pos, af, g⟩ E hp (fun r hp' => r = undef ∧ hp' = setH hp ad v) := by
 intro n a w ho hw K hK
 subst hw
 have hrun : (execOp a.eval ⟨d, .store t x y, ty, pos, af, g⟩).run P w = .ok .skip (w.setCell ad v) := by
  simp [execOp, ho.eval hx, ho.eval hy, Instr.storeAt, Instr.sureAddr, storeVar, Value.one_cells h1, run_sizeOf_single ht, storeCells, addr_zero, run_store_cell h1 hc hf]
 simp only [Oper.wp, hrun, Oper.upon]
 exact hK _ _ ⟨rfl, rfl, rfl⟩ ⟨rfl, rfl⟩
theorem run_storeCells {p o : Nat} {e : TypeId} {fr : Nat × Nat} : ∀ (vs : List Value) (i : Nat) (cur : Array Value) (w : World), (∀ v ∈ vs, Value.one v = true) → w.heap[p]? = some (.cells cur e fr) → o + i + vs.length ≤ cur.size → unfrozen cur.size fr →
  ∃ w', (storeCells ⟨p, o, none⟩ vs i).run P w = .ok () w' ∧ Inv w w' ∧ w'.heap.size = w.heap.size ∧ (∀ k, k ≠ p → w'.heap[k]? = w.heap[k]?) ∧
   w'.heap[p]? = some (.cells (cur.toList.take (o + i) ++ vs ++ cur.toList.drop (o + i + vs.length)).toArray e fr)
 | [], i, cur, w, _, hg, hl, hu => ⟨w, by simp [storeCells], Inv.refl w, rfl, fun _ _ => rfl, by simpa using hg⟩
 | v :: vs, i, cur, w, h1, hg, hl, hu => by
  have hv := h1 v List.mem_cons_self
  have hlt : o + i < cur.size := by simp at hl; omega
  have hc : cellH w.heap ⟨p, o + i, none⟩ = some cur[o + i] := by simp [cellH, hg, hlt]
  have hf : frozenH w.heap ⟨p, o + i, none⟩ = false := by
   have := hu.free (o + i) hlt
   simp only [frozenH, hg]
   simpa using this
  have hg' : (w.setCell ⟨p, o + i, none⟩ v).heap[p]? = some (.cells (cur.setIfInBounds (o + i) v) e fr) := setH_same v hg
  obtain ⟨w', hr, hi, hs, ho, hp'⟩ := run_storeCells (o := o) vs (i + 1) (cur.setIfInBounds (o + i) v) (w.setCell ⟨p, o + i, none⟩ v) (fun u hu => h1 u (List.mem_cons_of_mem _ hu)) hg' (by rw [Array.size_setIfInBounds]; simp at hl; omega) (by simpa using hu)
  refine ⟨w', ?_, ⟨hi.os, hi.tape, hi.output⟩, ?_, ?_, ?_⟩
  ·unfold storeCells
   simp only [Sem.run_bind, addr_add, run_store_cell hv hc hf, Result.andThen_ok]
   exact hr
  ·rw [hs]; exact setH_size _ _ _
  ·intro k hk
   rw [ho k hk]
   exact setH_other _ _ _ _ hk
  ·rw [hp']
   congr 3
   apply List.ext_getElem?
   intro j
   simp only [Array.toList_setIfInBounds, List.length_cons]
   rw [show o + (i + 1) = o + i + 1 by omega, show o + i + 1 + vs.length = o + i + (vs.length + 1) by omega]
   have e1 : (cur.toList.set (o + i) v).take (o + i + 1) = cur.toList.take (o + i) ++ [v] := by
    rw [List.take_succ_eq_append_getElem (by simpa using hlt)]
    rw [List.take_set, List.set_eq_of_length_le (by simp; omega)]; simp
   have e2 : (cur.toList.set (o + i) v).drop (o + i + (vs.length + 1)) = cur.toList.drop (o + i + (vs.length + 1)) := by
    rw [List.drop_set]; rw [if_pos (by omega)]
   rw [e1, e2]
   simp
def isBytesT (P : Program) (t : TypeId) : Bool :=
  match P.underlying t with
  | some (.slice e) => match P.underlying e with
    | some (.int .u8) => true
    | _ => false
  | _ => false
theorem run_bytesToString {A : Option Addr} {n c : Nat} {l : List UInt8} {w : World} (hl : l.length = n) (hr : Rd w.heap A (l.map byteV)) : (Conv.bytesToString (.slice A n c)).run P w = .ok (.string (str l)) w := by
 have hfor : ∀ (f : Value → ByteArray → Sem (ForInStep ByteArray)), (∀ b s, f (byteV b) s = pure (.yield (s.push b))) → ∀ (l : List UInt8) (s : ByteArray) (w : World),
   (forIn (m := Sem) (l.map byteV).toArray s f).run P w = .ok (s ++ str l) w := by
  intro f hf l
  induction l with
  | nil => intro s w; simp [str]; exact ByteArray.ext (by simp)
  | cons b l ih =>
   intro s w
   have := ih (s.push b) w
   simp only [List.map_cons, List.forIn_toArray, List.forIn_cons] at this ⊢
   simp only [hf, Sem.run_bind, Sem.run_pure, Result.andThen_ok]
   rw [this]
   congr 1
   apply ByteArray.ext
   simp [str, ByteArray.data_append, ByteArray.data_push]
 cases A with
 | none =>
  have : l = [] := by
   rcases hr with h | ⟨b, o, h, _⟩
   ·simpa using h
   ·cases h
  subst this
  simp [Conv.bytesToString, str]; rfl
 | some a =>
  by_cases hn : l = []
  ·subst hn
   simp at hl; subst hl
   simp [Conv.bytesToString, loadCells, loadCellsFrom, str]; rfl
  ·rcases hr with h | ⟨b, o, h, hc⟩
   ·exact absurd (by simpa using h) hn
   ·cases h
    have hrow := run_loadCellsFrom (P := P) (w := w) (b := b) (o := o) n 0 (l.map byteV) #[] (by simpa using hl) (by simpa using hc)
    simp only [Conv.bytesToString, loadCells, Sem.run_bind, hrow, Result.andThen_ok, Array.empty_append]
    rw [hfor _ (by intro b s; simp [byteV]) l .empty w]
    simp
theorem op_toStr {A : Option Addr} {n c : Nat} {l : List UInt8} (hx : ev E x = some (.slice A n c)) (ht : isBytesT P t = true) (ht' : isStrT P t' = true) (hl : l.length = n) (hr : Rd hp A (l.map byteV)) :
  Op1 .load P ⟨d, .convert t t' x, ty, pos, af, g⟩ E hp (.string (str l)) := by
 intro m a ho w' hx'
 unfold isBytesT at ht
 split at ht
 ·rename_i e hu
  split at ht
  ·rename_i hue
   unfold isStrT at ht'
   split at ht'
   ·rename_i hu'
    have := run_bytesToString (P := P) (c := c) hl (hr.ext hx')
    simp [execOp, ho.eval hx, convert, run_underlying hu, run_underlying hue, run_underlying hu', this]
   ·cases ht'
  ·cases ht
 ·cases ht
theorem ext_push (hp : Heap) (o : Obj) : Ext hp (hp.push o) := ⟨by simp, fun k hk => by rw [Array.getElem?_push, if_neg (by omega)]⟩
theorem push_at (hp : Heap) (o : Obj) : (hp.push o)[hp.size]? = some o := by simp
def zeroC (P : Program) (t : TypeId) : Option (List Value) :=
  match P.info? t with
  | some { zero := some z, .. } => some z.cells.toList
  | _ => none
theorem run_zeroValue {t : TypeId} {zs : List Value} (h : zeroC P t = some zs) (w : World) : ∃ z, (zeroValue t).run P w = .ok z w ∧ z.cells = zs.toArray := by
 unfold zeroC at h
 split at h
 ·rename_i z _ _ hi
  cases h
  exact ⟨z, by simp [zeroValue, typeInfo, hi], by simp⟩
 ·cases h
theorem run_newRow (e : TypeId) (cs : Array Value) (w : World) : (newRow e cs).run P w = .ok ⟨w.heap.size, 0, none⟩ (w.alloc (.cells cs e)) := rfl
theorem opl_alloc {zs : List Value} (hz : zeroC P t = some zs) : OpL P ⟨d, .alloc t, ty, pos, af, g⟩ E hp (fun v hp' => v = .pointer (some ⟨hp.size, 0, none⟩) ∧ hp' = hp.push (.cells zs.toArray t)) := by
 intro n a w ho hw K hK
 subst hw
 obtain ⟨z, hr, hc⟩ := run_zeroValue hz w
 have hrun : (execOp a.eval ⟨d, .alloc t, ty, pos, af, g⟩).run P w = .ok (.value (.pointer (some ⟨w.heap.size, 0, none⟩))) (w.alloc (.cells zs.toArray t)) := by
  simp [execOp, Instr.alloc, hr, newVar, run_newRow, hc]
 simp only [Oper.wp, hrun, Oper.upon]
 exact hK _ _ ⟨rfl, rfl, rfl⟩ ⟨rfl, rfl⟩
theorem opl_box {v : Value} {cs : List Value} (hx : ev E x = some v) (hc : v.cells = cs.toArray) : OpL P ⟨d, .box t x, ty, pos, af, g⟩ E hp (fun u hp' => u = .pointer (some ⟨hp.size, 0, none⟩) ∧ hp' = hp.push (.cells cs.toArray t)) := by
 intro n a w ho hw K hK
 subst hw
 have hrun : (execOp a.eval ⟨d, .box t x, ty, pos, af, g⟩).run P w = .ok (.value (.pointer (some ⟨w.heap.size, 0, none⟩))) (w.alloc (.cells cs.toArray t)) := by
  simp [execOp, ho.eval hx, Instr.box, newVar, run_newRow, hc]
 simp only [Oper.wp, hrun, Oper.upon]
 exact hK _ _ ⟨rfl, rfl, rfl⟩ ⟨rfl, rfl⟩
def evP (E : Env) : List (Nat × Operand) → Option (List (Nat × Value))
  | [] => some []
  | (i, x) :: r => match ev E x with
    | some v => match evP E r with
      | some vs => some ((i, v) :: vs)
      | none => none
    | none => none
theorem OK.parts {n : Nat} {a : Act} (h : OK n E a) : ∀ {l : List (Nat × Operand)} {vs : List (Nat × Value)}, evP E l = some vs → l.map (fun p => (p.1, a.eval p.2)) = vs
 | [], vs, hx => by simpa [evP] using hx
 | (i, x) :: r, vs, hx => by
  simp only [evP] at hx
  split at hx
  ·rename_i v hv
   split at hx
   ·rename_i us hu
    cases hx
    rw [List.map_cons, h.eval hv, h.parts hu]
   ·cases hx
  ·cases hx
def sliceI (P : Program) (t : TypeId) : Option (TypeId × Nat × Nat × List Value) :=
  match P.underlying t with
  | some (.slice e) => match P.info? e with
    | some { size := s, bytes := b, zero := some z, .. } => some (e, s, b, z.cells.toList)
    | _ => none
  | _ => none
theorem sliceI_spec {e s b : Nat} {zs : List Value} (h : sliceI P t = some (e, s, b, zs)) : ∃ (i : TypeInfo) (z : Value), P.underlying t = some (.slice e) ∧ P.info? e = some i ∧ i.zero = some z ∧ i.size = s ∧ i.bytes = b ∧ z.cells = zs.toArray := by
 unfold sliceI at h
 split at h
 ·rename_i e' hu
  split at h
  ·rename_i hi
   cases h
   exact ⟨_, _, hu, hi, rfl, rfl, rfl, by simp⟩
  ·cases h
 ·cases h
def sliceCells (len s : Nat) (zs : List Value) (parts : List (Nat × Value)) : Option (Array Value) :=
  Instr.fill (fun i => some (i * s, s)) ((Array.range (len * s)).map (zs.toArray[· % zs.toArray.size]!)) parts
theorem opl_buildSlice {e s b len : Nat} {zs : List Value} {parts : Array (Nat × Operand)} {ps : List (Nat × Value)} {cs : List Value} (hps : evP E parts.toList = some ps) (ht : sliceI P t = some (e, s, b, zs))
  (hn : Nat.ble (len * s) 16777216 = true) (hs : Nat.blt 0 (len * s) = true) (hc : sliceCells len s zs ps = some cs.toArray) :
  OpL P ⟨d, .buildSlice t len parts, ty, pos, af, g⟩ E hp (fun v hp' => v = .slice (some ⟨hp.size, 0, none⟩) len len ∧ hp' = hp.push (.cells cs.toArray e)) := by
 intro n a w ho hw K hK
 subst hw
 obtain ⟨i, z, hu, hi, hz, hsz, _, hzc⟩ := sliceI_spec ht
 have hp1 : (parts.map fun (i, x) => (i, a.eval x)).toList = ps := by
  rw [Array.toList_map]; exact ho.parts hps
 have hn' : ¬ (len * s > 2 ^ 24) := by have := Nat.le_of_ble_eq_true hn; omega
 have hs' : ¬ (len * s = 0) := by
  have : 0 < len * s := by simpa [Nat.blt_eq] using hs
  omega
 have hrun : (execOp a.eval ⟨d, .buildSlice t len parts, ty, pos, af, g⟩).run P w = .ok (.value (.slice (some ⟨w.heap.size, 0, none⟩) len len)) (w.alloc (.cells cs.toArray e)) := by
  unfold sliceCells at hc
  simp only [execOp, Instr.buildSlice, Sem.run_bind, run_underlying hu, Result.andThen_ok, sizeOf, typeInfo, zeroValue, program, Sem.run, hi, hz, Sem.run_pure, hsz, if_neg hn', if_neg hs', hp1, hzc, hc, run_newRow]
 simp only [Oper.wp, hrun, Oper.upon]
 exact hK _ _ ⟨rfl, rfl, rfl⟩ ⟨rfl, rfl⟩
theorem opl_make {e s b : Nat} {zs : List Value} {n : Nat} {k : IntKind} (hx : ev E x = some (.int k (n : Int))) (ht : sliceI P t = some (e, s, b, zs)) (hb : Nat.blt 0 b = true) (hn : n * b ≤ 140737488355328) :
  OpL P ⟨d, .makeSlice t x x, ty, pos, af, g⟩ E hp (fun v hp' => v = .slice (some ⟨hp.size, 0, none⟩) n n ∧ hp' = hp.push (.cells ((Array.range (n * s)).map (zs.toArray[· % zs.toArray.size]!)) e)) := by
 intro m a w ho hw K hK
 subst hw
 obtain ⟨i, z, hu, hi, hz, hsz, hbz, hzc⟩ := sliceI_spec ht
 have hb' : 0 < b := by simpa [Nat.blt_eq] using hb
 have hn1 : n ≤ 140737488355328 := Nat.le_trans (Nat.le_mul_of_pos_right _ hb') hn
 have hwr : IntKind.i64.wrap (n : Int) = n := IntWalk.i64_in _ (by omega)
 have h1 : ¬ ((n : Int) < 0) := by omega
 have h2 : ¬ ((b : Int) * (n : Int) > 281474976710656) := by
  rw [← Int.natCast_mul, Nat.mul_comm]
  omega
 have hrun : (execOp a.eval ⟨d, .makeSlice t x x, ty, pos, af, g⟩).run P w = .ok (.value (.slice (some ⟨w.heap.size, 0, none⟩) n n)) (w.alloc (.cells ((Array.range (n * s)).map (zs.toArray[· % zs.toArray.size]!)) e)) := by
  by_cases h0 : n * s = 0
  ·simp [execOp, ho.eval hx, Instr.makeSlice, run_underlying hu, asInt, asIntOf, typeInfo, hi, hbz, hwr, h1, h2, askRoom, roomBytes, sizeOf, hsz, h0, run_newRow]
   exact congrArg (fun x => w.alloc (.cells x e)) (Array.ext (by simp) (fun i h1 _ => absurd h1 (by simp)))
  ·simp [execOp, ho.eval hx, Instr.makeSlice, run_underlying hu, asInt, asIntOf, typeInfo, hi, hbz, hwr, h1, h2, askRoom, roomBytes, sizeOf, hsz, h0, zeroValue, hz, hzc, run_newRow]
 simp only [Oper.wp, hrun, Oper.upon]
 exact hK _ _ ⟨rfl, rfl, rfl⟩ ⟨rfl, rfl⟩
end
end Go.Bn
end

section
namespace Go.Bn
open Go
section
variable {P : Program} {E : Env} {hp : Heap} {cl : Cls} {d : Option Tmp} {ty : TypeId} {pos : String} {af : Array Edge} {g : Option (Nat × Bool)}
variable {x y : Operand} {t t' : TypeId}
def callOk (P : Program) (f : FuncId) : Bool :=
  match P.funcs[f]? with
  | some fn => !(fn.name == "runtime.NumGoroutine") && fn.body.isSome
  | none => false
theorem opl_call {f : FuncId} {args : Array Operand} {ts : Array TypeId} {vs : List Value} {Φ : Value → Heap → Prop} (h : Ret P f vs hp Φ) (hargs : evs E args.toList = some vs) (hc : callOk P f = true) :
  OpL P ⟨d, .call ⟨.value (.func f), args, ts⟩, ty, pos, af, g⟩ E hp Φ := by
 intro n a w ho hw K hK
 unfold callOk at hc
 split at hc
 ·rename_i fn hfn
  simp only [Bool.and_eq_true, Bool.not_eq_true'] at hc
  obtain ⟨hn, hb⟩ := hc
  have hn' : ¬ (fn.name = "runtime.NumGoroutine") := by simpa using hn
  have hb' : ¬ (fn.body = none) := by intro h; rw [h] at hb; cases hb
  have ha : args.map a.eval = vs.toArray := by
   apply Array.toList_inj.1
   rw [Array.toList_map, ho.evals hargs]
  have hrun : (execOp a.eval ⟨d, .call ⟨.value (.func f), args, ts⟩, ty, pos, af, g⟩).run P w = .ok (.enter f vs.toArray) w := by
   simp [execOp, resolve, Act.eval, Deferred.ofValue, invoke, callFunc, hfn, hn', hb', ha]
  simp only [Oper.wp, hrun, Oper.upon]
  refine (h w hw).mono ?_
  rintro e w' ⟨v, rfl, hi, hΦ⟩
  exact hK v w' hi hΦ
 ·cases hc
def cutA (A : Option Addr) (l sz m : Nat) : Option Addr := if m = l then A else A.map fun a => a.add (l * sz)
theorem Rd.cut {A : Option Addr} {vs : List Value} (h : Rd hp A vs) (l sz m n : Nat) (hm : m = l → vs.length ≤ l * sz) : Rd hp (cutA A l sz m) ((vs.drop (l * sz)).take n) := by
 refine Rd.take ?_ n
 unfold cutA
 split
 ·rename_i he
  rw [List.drop_eq_nil_of_le (hm he)]; exact .inl rfl
 ·rcases h with rfl | ⟨b, o, hA, hc⟩
  ·exact .inl (by simp)
  ·refine .inr ⟨b, o + l * sz, by rw [hA]; simp [addr_add], fun i u hu => ?_⟩
   rw [List.getElem?_drop] at hu
   rw [Nat.add_assoc]; exact hc _ u hu
theorem run_slice {e sz l h n c : Nat} {A : Option Addr} {i : TypeInfo} {lo hi : Option Value} (hu : P.underlying t = some (.slice e)) (hi' : P.info? e = some i) (hs : i.size = sz)
  (hlo : (lo = none ∧ l = 0) ∨ ∃ k, lo = some (.int k (l : Int))) (hhi : (hi = none ∧ h = n) ∨ ∃ k, hi = some (.int k (h : Int))) (hlh : l ≤ h) (hhc : h ≤ c) (w : World) :
  (Instr.sliceAt t (.slice A n c) lo hi none).run P w = .ok (.slice (cutA A l sz c) (h - l) (c - l)) w := by
 have hlc : (l : Int) ≤ (h : Int) := by omega
 have hhc' : (h : Int) ≤ (c : Int) := by omega
 have e1 : (Instr.sliceAt t (.slice A n c) lo hi none).run P w = (Instr.slice t (.slice A n c) lo hi none).run P w := by
  simp [Instr.sliceAt, run_underlying hu]
 rw [e1]
 rcases hlo with ⟨rfl, rfl⟩ | ⟨k, rfl⟩ <;> rcases hhi with ⟨rfl, rfl⟩ | ⟨k', rfl⟩ <;>
  simp [Instr.slice, run_underlying hu, Instr.sliceBounds, Instr.sliceBound, asIntOf, sizeOf, typeInfo, hi', hs, cutA, hlh, hhc]
theorem op_slice {lo hi : Operand} {sz l h n c : Nat} {k k' : IntKind} {A : Option Addr} (hx : ev E x = some (.slice A n c)) (hlo : ev E lo = some (.int k (l : Int))) (hhi : ev E hi = some (.int k' (h : Int))) (ht : sliceEl P t = some sz)
  (hlh : l ≤ h) (hhc : h ≤ c) : Op1 cl P ⟨d, .slice t x (some lo) (some hi) none, ty, pos, af, g⟩ E hp (.slice (cutA A l sz c) (h - l) (c - l)) :=
 .of_pure fun _ a ho w' => by
  obtain ⟨e, i, hu, hi', hs⟩ := sliceEl_spec ht
  have := run_slice (A := A) (n := n) hu hi' hs (.inr ⟨k, rfl⟩ : ((some (.int k (l : Int)) : Option Value) = none ∧ l = 0) ∨ _) (.inr ⟨k', rfl⟩ : ((some (.int k' (h : Int)) : Option Value) = none ∧ h = n) ∨ _) hlh hhc w'
  simp [execOp, ho.eval hx, ho.eval hlo, ho.eval hhi, this]
theorem op_slice_l {lo : Operand} {sz l n c : Nat} {k : IntKind} {A : Option Addr} (hx : ev E x = some (.slice A n c)) (hlo : ev E lo = some (.int k (l : Int))) (ht : sliceEl P t = some sz)
  (hlh : l ≤ n) (hhc : n ≤ c) : Op1 cl P ⟨d, .slice t x (some lo) none none, ty, pos, af, g⟩ E hp (.slice (cutA A l sz c) (n - l) (c - l)) :=
 .of_pure fun _ a ho w' => by
  obtain ⟨e, i, hu, hi', hs⟩ := sliceEl_spec ht
  have := run_slice (A := A) (n := n) hu hi' hs (.inr ⟨k, rfl⟩ : ((some (.int k (l : Int)) : Option Value) = none ∧ l = 0) ∨ _) (.inl ⟨rfl, rfl⟩) hlh hhc w'
  simp [execOp, ho.eval hx, ho.eval hlo, this]
theorem op_slice_h {hi : Operand} {sz h n c : Nat} {k : IntKind} {A : Option Addr} (hx : ev E x = some (.slice A n c)) (hhi : ev E hi = some (.int k (h : Int))) (ht : sliceEl P t = some sz)
  (hhc : h ≤ c) : Op1 cl P ⟨d, .slice t x none (some hi) none, ty, pos, af, g⟩ E hp (.slice (cutA A 0 sz c) h c) :=
 .of_pure fun _ a ho w' => by
  obtain ⟨e, i, hu, hi', hs⟩ := sliceEl_spec ht
  have := run_slice (A := A) (n := n) hu hi' hs (.inl ⟨rfl, rfl⟩) (.inr ⟨k, rfl⟩ : ((some (.int k (h : Int)) : Option Value) = none ∧ h = n) ∨ _) (Nat.zero_le _) hhc w'
  simp [execOp, ho.eval hx, ho.eval hhi, this]
theorem cutA_zero (A : Option Addr) (sz m : Nat) : cutA A 0 sz m = A := by
 unfold cutA
 split
 ·rfl
 ·cases A <;> simp [Addr.add]
theorem rd_cell {A : Option Addr} {vs : List Value} {a : Addr} {w : World} (h : Rd w.heap A vs) (hA : A = some a) : ∀ (j : Nat) (u : Value), vs[j]? = some u → w.cell? (a.add j) = some u := by
 intro j u hu
 rcases h with rfl | ⟨b, o, hA', hc⟩
 ·simp at hu
 ·rw [hA] at hA'; cases hA'
  rw [addr_add]; exact hc j u hu
theorem zeroCells_size (z : Array Value) (n : Nat) : (Builtin.zeroCells z n).size = n * z.size := by simp [Builtin.zeroCells]
theorem run_append {e sz b m c : Nat} {zs : List Value} {v : Value} {vs news : List Value} {A : Option Addr} {S : Nat → Prop} {w : World} (ht : sliceI P t = some (e, sz, b, zs)) (hzs : zs.length = sz) (hsz : 0 < sz) (hr : RowAt e sz v vs w.heap S)
  (hn : Rd w.heap A news) (hl : news.length = m * sz) (h1 : ∀ u ∈ news, Value.one u = true) (hb0 : 0 < b) (hb : (vs.length + news.length) * b ≤ 140737488355328) :
  ∃ v' w', (Builtin.append_ #[t, t] ty #[v, .slice A m c]).run P w = .ok v' w' ∧ Inv w w' ∧ Upd (row e sz v vs) w.heap (row e sz v' (vs ++ news)) w'.heap := by
 obtain ⟨i, z, hu, hi, hz, hs, hbz, hzc⟩ := sliceI_spec ht
 subst hs hbz
 have hzs' : z.cells.size = i.size := by rw [hzc]; simpa using hzs
 have hlen : vs.length + news.length ≤ 140737488355328 := Nat.le_trans (Nat.le_mul_of_pos_right _ hb0) hb
 -- A row that is new.
 have fresh : ∀ (n old : Nat), vs.length = n * i.size → n + m ≠ 0 → (∀ S, RowAt e i.size v vs w.heap S → ∀ k, S k → k < w.heap.size) →
   Upd (row e i.size v vs) w.heap (row e i.size (.slice (some ⟨w.heap.size, 0, none⟩) (n + m) (grownCap w (n + m) old e)) (vs ++ news))
    (w.heap.push (.cells (vs.toArray ++ news.toArray ++ Builtin.zeroCells z.cells (grownCap w (n + m) old e - (n + m))) e)) := by
  intro n old hvn h0 _
  have hge := grownCap_ge w (n + m) old e
  have hnm : n + m ≤ maxLen := by
   have : (n + m) * i.size ≤ 140737488355328 := by rw [Nat.add_mul, ← hvn, ← hl]; exact hlen
   have := Nat.le_trans (Nat.le_mul_of_pos_right (n + m) hsz) this
   simp only [maxLen]; omega
  have hcm := grownCap_le_maxLen w (n + m) old e hnm
  refine ⟨(ext_push _ _).size, fun S hS => ⟨fun k => k = w.heap.size, .inr ⟨w.heap.size, n + m, _, _, (0, 0), rfl, push_at _ _, hge, hcm, ?_, ?_, ?_, ?_, fun _ => Iff.rfl⟩, fun k hk => .inr (by omega), fun k hk _ => (ext_push _ _).blk k hk⟩⟩
  ·simp only [Array.size_append, List.size_toArray, zeroCells_size, hzs', hvn, hl, ← Nat.add_mul]
   congr 1; omega
  ·simp only [Array.toList_append, List.append_assoc]
   rw [← List.append_assoc, Nat.add_mul, ← hvn, ← hl, ← List.length_append]
   exact List.take_left
  ·rw [List.length_append, hvn, hl, Nat.add_mul]
  ·exact .inl rfl
 have b63 : ∀ n, vs.length = n * i.size → n + m ≤ 140737488355328 ∧ (n + m) * i.bytes ≤ 140737488355328 := by
  intro n hvn
  have h2 : (n + m) * i.size ≤ vs.length + news.length := by rw [Nat.add_mul, ← hvn, ← hl]; exact Nat.le_refl _
  have h3 : n + m ≤ vs.length + news.length := Nat.le_trans (Nat.le_mul_of_pos_right _ hsz) h2
  exact ⟨by omega, Nat.le_trans (Nat.mul_le_mul_right _ h3) hb⟩
 have hlt : ∀ S, RowAt e i.size v vs w.heap S → ∀ k, S k → k < w.heap.size := fun S hS k hk => (row e i.size v vs).lt hS k hk
 -- What is added has no address only where it is empty.
 cases A with
 | none =>
  have hne : news = [] := by
   rcases hn with h | ⟨_, _, h, _⟩
   ·exact h
   ·cases h
  subst hne
  have hm : m = 0 := by
   rcases Nat.eq_zero_or_pos m with h | h
   ·exact h
   ·have := Nat.mul_pos h hsz; simp at hl; omega
  subst hm
  refine ⟨v, w, ?_, Inv.refl w, Nat.le_refl _, fun S hS => ⟨S, by simpa using hS, fun k hk => .inl hk, fun _ _ _ => rfl⟩⟩
  rcases hr with ⟨rfl, rfl, _⟩ | ⟨g, n, cap, cur, fr, rfl, h2, h3, h4, h5, h6, h7, h8, hS⟩
  ·simp [Builtin.append_, run_underlying hu, sizeOf, typeInfo, hi, Builtin.lenOf, Builtin.firstCells]
  ·simp [Builtin.append_, run_underlying hu, sizeOf, typeInfo, hi, Builtin.lenOf, Builtin.firstCells, h3, storeCells]
 | some a =>
  have hcell := rd_cell hn rfl
  rcases hr with ⟨rfl, rfl, hS0⟩ | ⟨g, n, cap, cur, fr, rfl, h2, h3, h4, h5, h6, h7, h8, hS⟩
  ·by_cases hm : m = 0
   ·subst hm
    have hne : news = [] := List.eq_nil_of_length_eq_zero (by simpa using hl)
    subst hne
    refine ⟨.slice none 0 0, w, ?_, Inv.refl w, Nat.le_refl _, fun S hS => ⟨S, by simpa using hS, fun k hk => .inl hk, fun _ _ _ => rfl⟩⟩
    simp [Builtin.append_, run_underlying hu, sizeOf, typeInfo, hi, Builtin.lenOf, Builtin.firstCells, loadCells, loadCellsFrom]
   ·obtain ⟨q1, q2⟩ := b63 0 (by simp)
    have hrun := run_append_nil (P := P) w t ty e i z hu hi hz a m c news hl hcell (by omega) (by omega) (by simp at q2; omega)
    have hf := fresh 0 0 (by simp) (by omega) hlt
    simp only [Nat.zero_add, List.nil_append, Array.empty_append] at hf
    exact ⟨_, _, hrun, ⟨rfl, rfl, rfl⟩, hf⟩
  ·by_cases hroom : n + m ≤ cap
   ·have hfit : n * i.size + news.length ≤ cur.size := by rw [hl, h5, ← Nat.add_mul]; exact Nat.mul_le_mul_right _ hroom
    obtain ⟨w', hst, hinv, hsz', hoth, hnew⟩ := run_storeCells (P := P) (p := g) (o := n * i.size) (e := e) (fr := fr) news 0 cur w h1 h2 (by simpa using hfit) h8
    have hfc := run_firstCells_some (P := P) w i.size m a m c news hl hcell
    refine ⟨.slice (some ⟨g, 0, none⟩) (n + m) cap, w', ?_, hinv, by rw [hsz']; exact Nat.le_refl _, fun S' hS' => ?_⟩
    ·simp [Builtin.append_, run_underlying hu, sizeOf, typeInfo, hi, Builtin.lenOf, hroom, hfc, addr_add, hst]
    ·have hSg : ∀ k, S' k ↔ k = g := by
      rcases hS' with ⟨hh, _⟩ | ⟨g', n', cap', cur', fr', hh, _, _, _, _, _, _, _, hS''⟩
      ·cases hh
      ·cases hh; exact hS''
     simp only [Nat.add_zero] at hnew
     refine ⟨S', .inr ⟨g, n + m, cap, _, fr, rfl, hnew, hroom, h4, ?_, ?_, ?_, ?_, hSg⟩, fun k hk => .inl hk, fun k _ hk => hoth k (fun h => hk ((hSg k).2 h))⟩
     ·simp only [List.size_toArray, List.length_append, List.length_take, List.length_drop, Array.length_toList]
      omega
     ·rw [h6, Nat.add_mul, ← h7, ← hl, ← List.length_append]
      exact List.take_left
     ·rw [List.length_append, h7, hl, Nat.add_mul]
     ·have : ((cur.toList.take (n * i.size) ++ news ++ cur.toList.drop (n * i.size + news.length)).toArray).size = cur.size := by
       simp only [List.size_toArray, List.length_append, List.length_take, List.length_drop, Array.length_toList]
       omega
      rw [this]; exact h8
   ·obtain ⟨q1, q2⟩ := b63 n h7
    have holds : ∀ (j : Nat) (u : Value), vs[j]? = some u → w.cell? ((⟨g, 0, none⟩ : Addr).add j) = some u := by
     intro j u hu'
     rw [addr_add, cell_world]
     simp only [cellH, h2, Nat.zero_add]
     rw [← h6, List.getElem?_take] at hu'
     split at hu'
     ·simpa using hu'
     ·cases hu'
    have hrun := run_append_grow (P := P) w t ty e i z hu hi hz ⟨g, 0, none⟩ n cap vs h7 holds a m c news hl hcell (by omega) (by omega) (growslice_fits (by omega) q2)
    exact ⟨_, _, hrun, ⟨rfl, rfl, rfl⟩, fresh n cap h7 (by omega) hlt⟩
theorem opl_append {e sz b m c : Nat} {zs : List Value} {v : Value} {vs news : List Value} {A : Option Addr} {B : Nat} {h0 : Heap} {rs : List Res} (st : St B h0 hp rs) (j : Nat) (hj : rs[j]? = some (row e sz v vs)) (hn : Rd hp A news) (hl : news.length = m * sz)
  (h1 : ∀ u ∈ news, Value.one u = true) (hb : (vs.length + news.length) * b ≤ 140737488355328) (hx : ev E x = some v) (hy : ev E y = some (.slice A m c)) (ht : sliceI P t = some (e, sz, b, zs)) (hzs : Nat.beq zs.length sz = true) (hsz : Nat.blt 0 sz = true) (hb0 : Nat.blt 0 b = true)
  {ts : Array TypeId} (hts : ts = #[t, t]) :
  OpL P ⟨d, .call ⟨.builtin .append, #[x, y], ts⟩, ty, pos, af, g⟩ E hp (fun v' hp' => St B h0 hp' (rs.set j (row e sz v' (vs ++ news)))) := by
 intro n a w ho hw K hK
 subst hw hts
 obtain ⟨S, hS, _⟩ := st.at_ hj
 obtain ⟨v', w', hrun, hinv, hupd⟩ := run_append (ty := ty) (c := c) ht (Nat.eq_of_beq_eq_true hzs) (by simpa [Nat.blt_eq] using hsz) hS hn hl h1 (by simpa [Nat.blt_eq] using hb0) hb
 have hrun' : (execOp a.eval ⟨d, .call ⟨.builtin .append, #[x, y], #[t, t]⟩, ty, pos, af, g⟩).run P w = .ok (.value v') w' := by
  simp [execOp, resolve, ho.eval hx, ho.eval hy, invoke, builtin, hrun]
 simp only [Oper.wp, hrun', Oper.upon]
 exact hK v' w' hinv (st.upd hj hupd)
end
end Go.Bn
end

section
namespace Go.Bn
open Go
def inK : IntKind → Int → Prop
  | .i8, n => -128 ≤ n ∧ n ≤ 127
  | .i16, n => -32768 ≤ n ∧ n ≤ 32767
  | .i32, n => -2147483648 ≤ n ∧ n ≤ 2147483647
  | .i64, n => -9223372036854775808 ≤ n ∧ n ≤ 9223372036854775807
  | .u8, n => 0 ≤ n ∧ n ≤ 255
  | .u16, n => 0 ≤ n ∧ n ≤ 65535
  | .u32, n => 0 ≤ n ∧ n ≤ 4294967295
  | .u64, n => 0 ≤ n ∧ n ≤ 18446744073709551615
theorem wrap_in {k : IntKind} {n : Int} (h : inK k n) : k.wrap n = n := by
 cases k <;> simp only [inK] at h
 ·exact IntWalk.i8_in _ h
 ·exact IntWalk.i16_in _ h
 ·exact IntWalk.i32_in _ h
 ·exact IntWalk.i64_in _ h
 ·exact IntWalk.u8_in _ h
 ·exact IntWalk.u16_in _ h
 ·exact IntWalk.u32_in _ h
 ·exact IntWalk.u64_in _ h
def notPure : Cls → Bool
  | .pure => false
  | _ => true
section
variable {P : Program} {E : Env} {hp : Heap} {cl : Cls} {d : Option Tmp} {ty : TypeId} {pos : String} {af : Array Edge} {g : Option (Nat × Bool)}
variable {x y : Operand} {t t' : TypeId} {k : IntKind} {a b : Int}
theorem Op1.of_load {o : Oper} {v : Value} (hc : notPure cl = true) (h : Op1 .load P o E hp v) : Op1 cl P o E hp v := by
 cases cl <;> first | (cases hc; done) | exact h
theorem op_ld {ad : Addr} {v : Value} (hc : cellH hp ad = some v) (hx : ev E x = some (.pointer (some ad))) (ht : single P t = true) (hcl : notPure cl = true) : Op1 cl P ⟨d, .load t x, ty, pos, af, g⟩ E hp v :=
 .of_load hcl (op_load hx ht hc)
theorem op_ldA {bk o n : Nat} {vs : List Value} (hc : ∀ j u, vs[j]? = some u → cellH hp ⟨bk, o + j, none⟩ = some u) (hx : ev E x = some (.pointer (some ⟨bk, o, none⟩))) (ht : aggN P t = some n) (hl : vs.length = n) (hcl : notPure cl = true) :
  Op1 cl P ⟨d, .load t x, ty, pos, af, g⟩ E hp (.agg vs.toArray) := .of_load hcl (op_loadA hx ht hl hc)
theorem op_str {A : Option Addr} {n c : Nat} {l : List UInt8} (hr : Rd hp A (l.map byteV)) (hx : ev E x = some (.slice A n c)) (hl : l.length = n) (ht : isBytesT P t = true) (ht' : isStrT P t' = true) (hcl : notPure cl = true) :
  Op1 cl P ⟨d, .convert t t' x, ty, pos, af, g⟩ E hp (.string (str l)) := .of_load hcl (op_toStr hx ht ht' hl hr)
theorem op_addI (hx : ev E x = some (.int k a)) (hy : ev E y = some (.int k b)) (h : inK k (a + b)) : Op1 cl P ⟨d, .binOp .add t x y t', ty, pos, af, g⟩ E hp (.int k (a + b)) := by
 have := op_add (cl := cl) (P := P) (hp := hp) (d := d) (ty := ty) (pos := pos) (af := af) (g := g) (t := t) (t' := t') hx hy
 rwa [wrap_in h] at this
theorem op_subI (hx : ev E x = some (.int k a)) (hy : ev E y = some (.int k b)) (h : inK k (a - b)) : Op1 cl P ⟨d, .binOp .sub t x y t', ty, pos, af, g⟩ E hp (.int k (a - b)) := by
 have := op_sub (cl := cl) (P := P) (hp := hp) (d := d) (ty := ty) (pos := pos) (af := af) (g := g) (t := t) (t' := t') hx hy
 rwa [wrap_in h] at this
theorem op_mulI (hx : ev E x = some (.int k a)) (hy : ev E y = some (.int k b)) (h : inK k (a * b)) : Op1 cl P ⟨d, .binOp .mul t x y t', ty, pos, af, g⟩ E hp (.int k (a * b)) := by
 have := op_mul (cl := cl) (P := P) (hp := hp) (d := d) (ty := ty) (pos := pos) (af := af) (g := g) (t := t) (t' := t') hx hy
 rwa [wrap_in h] at this
theorem op_convI {k' : IntKind} (hx : ev E x = some (.int k a)) (hc : convI P t t' = some k') (h : inK k' a) : Op1 cl P ⟨d, .convert t t' x, ty, pos, af, g⟩ E hp (.int k' a) := by
 have := op_conv (cl := cl) (P := P) (hp := hp) (d := d) (ty := ty) (pos := pos) (af := af) (g := g) hx hc
 rwa [wrap_in h] at this
theorem op_quoI (hx : ev E x = some (.int k a)) (hy : ev E y = some (.int k b)) (ha : 0 ≤ a) (hb : 0 < b) (hk : inK k a) : Op1 cl P ⟨d, .binOp .quo t x y t', ty, pos, af, g⟩ E hp (.int k (a / b)) := by
 have := op_quo (cl := cl) (P := P) (hp := hp) (d := d) (ty := ty) (pos := pos) (af := af) (g := g) (t := t) (t' := t') hx hy (by omega)
 rw [Int.tdiv_eq_ediv_of_nonneg ha] at this
 have h1 : 0 ≤ a / b := Int.ediv_nonneg ha (by omega)
 have h2 : a / b ≤ a := Int.ediv_le_self _ ha
 rwa [wrap_in (by cases k <;> simp only [inK] at hk ⊢ <;> omega)] at this
theorem op_remI (hx : ev E x = some (.int k a)) (hy : ev E y = some (.int k b)) (ha : 0 ≤ a) (hb : 0 < b) : Op1 cl P ⟨d, .binOp .rem t x y t', ty, pos, af, g⟩ E hp (.int k (a % b)) := by
 have := op_rem (cl := cl) (P := P) (hp := hp) (d := d) (ty := ty) (pos := pos) (af := af) (g := g) (t := t) (t' := t') hx hy (by omega)
 rwa [Int.tmod_eq_emod_of_nonneg ha] at this
theorem op_shlN {k' : IntKind} (s : Nat) (hx : ev E x = some (.int k a)) (hy : ev E y = some (.int k' (s : Int))) (hs : s ≤ k.bits) : Op1 cl P ⟨d, .binOp .shl t x y t', ty, pos, af, g⟩ E hp (.int k (k.wrap (a * 2 ^ s))) := by
 have := op_shl (cl := cl) (P := P) (hp := hp) (d := d) (ty := ty) (pos := pos) (af := af) (g := g) (t := t) (t' := t') hx hy (by omega)
 rwa [show min (Int.toNat (s : Int)) k.bits = s by simp; omega] at this
theorem op_shlI {k' : IntKind} (s : Nat) (hx : ev E x = some (.int k a)) (hy : ev E y = some (.int k' (s : Int))) (hs : s ≤ k.bits) (h : inK k (a * 2 ^ s)) : Op1 cl P ⟨d, .binOp .shl t x y t', ty, pos, af, g⟩ E hp (.int k (a * 2 ^ s)) := by
 have := op_shlN (cl := cl) (P := P) (hp := hp) (d := d) (ty := ty) (pos := pos) (af := af) (g := g) (t := t) (t' := t') s hx hy hs
 rwa [wrap_in h] at this
theorem op_shrN {k' : IntKind} (s : Nat) (hx : ev E x = some (.int k a)) (hy : ev E y = some (.int k' (s : Int))) (hs : s ≤ k.bits) : Op1 cl P ⟨d, .binOp .shr t x y t', ty, pos, af, g⟩ E hp (.int k (a / 2 ^ s)) := by
 have := op_shr (cl := cl) (P := P) (hp := hp) (d := d) (ty := ty) (pos := pos) (af := af) (g := g) (t := t) (t' := t') hx hy (by omega)
 rw [show min (Int.toNat (s : Int)) k.bits = s by simp; omega] at this
 rwa [Int.fdiv_eq_ediv_of_nonneg _ (Int.le_of_lt (Int.pow_pos (by omega)))] at this
theorem op_addN {m n : Nat} (hx : ev E x = some (.int k (m : Int))) (hy : ev E y = some (.int k (n : Int))) (h : inK k ((m + n : Nat) : Int)) : Op1 cl P ⟨d, .binOp .add t x y t', ty, pos, af, g⟩ E hp (.int k ((m + n : Nat) : Int)) := by
 rw [Int.natCast_add] at h ⊢; exact op_addI hx hy h
theorem op_subN {m n : Nat} (hx : ev E x = some (.int k (m : Int))) (hy : ev E y = some (.int k (n : Int))) (hle : n ≤ m) (h : inK k ((m - n : Nat) : Int)) : Op1 cl P ⟨d, .binOp .sub t x y t', ty, pos, af, g⟩ E hp (.int k ((m - n : Nat) : Int)) := by
 rw [Int.ofNat_sub hle] at h ⊢; exact op_subI hx hy h
theorem op_mulN {m n : Nat} (hx : ev E x = some (.int k (m : Int))) (hy : ev E y = some (.int k (n : Int))) (h : inK k ((m * n : Nat) : Int)) : Op1 cl P ⟨d, .binOp .mul t x y t', ty, pos, af, g⟩ E hp (.int k ((m * n : Nat) : Int)) := by
 rw [Int.natCast_mul] at h ⊢; exact op_mulI hx hy h
theorem op_quoN {m n : Nat} (hx : ev E x = some (.int k (m : Int))) (hy : ev E y = some (.int k (n : Int))) (hn : 0 < n) (h : inK k (m : Int)) : Op1 cl P ⟨d, .binOp .quo t x y t', ty, pos, af, g⟩ E hp (.int k ((m / n : Nat) : Int)) := by
 rw [Int.natCast_ediv]; exact op_quoI hx hy (by omega) (by omega) h
theorem op_remN {m n : Nat} (hx : ev E x = some (.int k (m : Int))) (hy : ev E y = some (.int k (n : Int))) (hn : 0 < n) : Op1 cl P ⟨d, .binOp .rem t x y t', ty, pos, af, g⟩ E hp (.int k ((m % n : Nat) : Int)) := by
 rw [Int.natCast_emod]; exact op_remI hx hy (by omega) (by omega)
theorem op_shlC {k' : IntKind} {m : Nat} (s : Nat) (hx : ev E x = some (.int k (m : Int))) (hy : ev E y = some (.int k' (s : Int))) (hs : s ≤ k.bits) (h : inK k ((m * 2 ^ s : Nat) : Int)) : Op1 cl P ⟨d, .binOp .shl t x y t', ty, pos, af, g⟩ E hp (.int k ((m * 2 ^ s : Nat) : Int)) := by
 have e : ((m * 2 ^ s : Nat) : Int) = (m : Int) * 2 ^ s := by rw [Int.natCast_mul, Int.natCast_pow]; rfl
 rw [e] at h ⊢; exact op_shlI s hx hy hs h
theorem op_shrC {k' : IntKind} {m : Nat} (s : Nat) (hx : ev E x = some (.int k (m : Int))) (hy : ev E y = some (.int k' (s : Int))) (hs : s ≤ k.bits) : Op1 cl P ⟨d, .binOp .shr t x y t', ty, pos, af, g⟩ E hp (.int k ((m / 2 ^ s : Nat) : Int)) := by
 have e : ((m / 2 ^ s : Nat) : Int) = (m : Int) / 2 ^ s := by rw [Int.natCast_ediv, Int.natCast_pow]; rfl
 rw [e]; exact op_shrN s hx hy hs
theorem op_shrA {k' : IntKind} {m : Nat} (s : Nat) (hx : ev E x = some (.int k (m : Int))) (hy : ev E y = some (.int k' (s : Int))) (hm : m < 2 ^ k.bits) : Op1 cl P ⟨d, .binOp .shr t x y t', ty, pos, af, g⟩ E hp (.int k ((m / 2 ^ s : Nat) : Int)) := by
 rcases Nat.lt_or_ge k.bits s with h | h
 ·have := op_shr (cl := cl) (P := P) (hp := hp) (d := d) (ty := ty) (pos := pos) (af := af) (g := g) (t := t) (t' := t') hx hy (by omega)
  rw [show min (Int.toNat (s : Int)) k.bits = k.bits by simp; omega, Int.fdiv_eq_ediv_of_nonneg _ (Int.le_of_lt (Int.pow_pos (by omega)))] at this
  have e1 : (m : Int) / 2 ^ k.bits = ((m / 2 ^ k.bits : Nat) : Int) := by rw [Int.natCast_ediv, Int.natCast_pow]; rfl
  rw [e1, Nat.div_eq_of_lt hm] at this
  rwa [Nat.div_eq_of_lt (Nat.lt_of_lt_of_le hm (Nat.pow_le_pow_right (by omega) (by omega)))]
 ·exact op_shrC s hx hy h
theorem wrap_nat {k : IntKind} (hk : k.signed = false) (m : Nat) : k.wrap (m : Int) = ((m % 2 ^ k.bits : Nat) : Int) := by
 unfold IntKind.wrap
 simp [hk]
theorem op_convU {k' : IntKind} {m : Nat} (hx : ev E x = some (.int k (m : Int))) (hc : convI P t t' = some k') (hk : k'.signed = false) : Op1 cl P ⟨d, .convert t t' x, ty, pos, af, g⟩ E hp (.int k' ((m % 2 ^ k'.bits : Nat) : Int)) := by
 have := op_conv (cl := cl) (P := P) (hp := hp) (d := d) (ty := ty) (pos := pos) (af := af) (g := g) hx hc
 rwa [wrap_nat hk] at this
theorem bitsOp_nat {k : IntKind} (op : BinOp) (m n : Nat) (hm : m < 2 ^ k.bits) (hn : n < 2 ^ k.bits) : bitsOp op k (m : Int) (n : Int) = k.wrap ((match op with
  | .and => m &&& n
  | .or => m ||| n
  | .xor => m ^^^ n
  | _ => m &&& (2 ^ k.bits - 1 - n)) : Nat) := by
 have e1 : BitVec.ofInt k.bits (m : Int) = BitVec.ofNat k.bits m := by simp
 have e2 : BitVec.ofInt k.bits (n : Int) = BitVec.ofNat k.bits n := by simp
 unfold bitsOp
 simp only [e1, e2]
 split <;> simp [Nat.mod_eq_of_lt hm, Nat.mod_eq_of_lt hn]
theorem two_bits (k : IntKind) (hk : k.signed = false) {n : Nat} (h : n < 2 ^ k.bits) : inK k (n : Int) := by
 cases k <;> first | (cases hk; done) | (simp only [IntKind.bits] at h; simp only [inK]; omega)
theorem op_andN {m n : Nat} (hx : ev E x = some (.int k (m : Int))) (hy : ev E y = some (.int k (n : Int))) (hk : k.signed = false) (hm : m < 2 ^ k.bits) (hn : n < 2 ^ k.bits) : Op1 cl P ⟨d, .binOp .and t x y t', ty, pos, af, g⟩ E hp (.int k ((m &&& n : Nat) : Int)) := by
 have := op_and (cl := cl) (P := P) (hp := hp) (d := d) (ty := ty) (pos := pos) (af := af) (g := g) (t := t) (t' := t') hx hy
 rw [bitsOp_nat .and m n hm hn] at this
 simp only at this
 rwa [wrap_in (two_bits k hk (Nat.lt_of_le_of_lt Nat.and_le_left hm))] at this
theorem op_orN {m n : Nat} (hx : ev E x = some (.int k (m : Int))) (hy : ev E y = some (.int k (n : Int))) (hk : k.signed = false) (hm : m < 2 ^ k.bits) (hn : n < 2 ^ k.bits) : Op1 cl P ⟨d, .binOp .or t x y t', ty, pos, af, g⟩ E hp (.int k ((m ||| n : Nat) : Int)) := by
 have := op_or (cl := cl) (P := P) (hp := hp) (d := d) (ty := ty) (pos := pos) (af := af) (g := g) (t := t) (t' := t') hx hy
 rw [bitsOp_nat .or m n hm hn] at this
 simp only at this
 rwa [wrap_in (two_bits k hk (Nat.or_lt_two_pow hm hn))] at this
theorem op_andS {m n : Nat} (hx : ev E x = some (.int k (m : Int))) (hy : ev E y = some (.int k (n : Int))) (hm : inK k (m : Int)) (hn : inK k (n : Int)) : Op1 cl P ⟨d, .binOp .and t x y t', ty, pos, af, g⟩ E hp (.int k ((m &&& n : Nat) : Int)) := by
 have h1 : m < 2 ^ k.bits := by cases k <;> simp only [inK] at hm <;> simp only [IntKind.bits] <;> omega
 have h2 : n < 2 ^ k.bits := by cases k <;> simp only [inK] at hn <;> simp only [IntKind.bits] <;> omega
 have := op_and (cl := cl) (P := P) (hp := hp) (d := d) (ty := ty) (pos := pos) (af := af) (g := g) (t := t) (t' := t') hx hy
 rw [bitsOp_nat .and m n h1 h2] at this
 simp only at this
 have h3 : m &&& n ≤ m := Nat.and_le_left
 rwa [wrap_in (by cases k <;> simp only [inK] at hm ⊢ <;> omega)] at this
theorem one_bytes (l : List UInt8) : ∀ u ∈ l.map byteV, Value.one u = true := by
 intro u hu
 obtain ⟨b, _, rfl⟩ := List.mem_map.1 hu
 rfl
theorem one_ints (k : IntKind) (l : List Int) : ∀ u ∈ l.map (Value.int k), Value.one u = true := by
 intro u hu
 obtain ⟨b, _, rfl⟩ := List.mem_map.1 hu
 rfl
theorem rd_push (hp : Heap) (cs : List Value) (e : TypeId) : Rd (hp.push (.cells cs.toArray e)) (some ⟨hp.size, 0, none⟩) cs :=
 .inr ⟨hp.size, 0, rfl, fun i u hu => by simp [cellH]; exact hu⟩
theorem opl_build1 {e bt : Nat} {zv v : Value} (hx : ev E x = some v) (h1 : Value.one v = true) (ht : sliceI P t = some (e, 1, bt, [zv])) :
  OpL P ⟨d, .buildSlice t 1 #[(0, x)], ty, pos, af, g⟩ E hp (fun u hp' => u = .slice (some ⟨hp.size, 0, none⟩) 1 1 ∧ hp' = hp.push (.cells [v].toArray e)) := by
 refine opl_buildSlice (ps := [(0, v)]) (cs := [v]) (by simp [evP, hx]) ht rfl rfl ?_
 have hc : v.cells = #[v] := Value.one_cells h1
 have hr : (Array.range (1 * 1)).map (fun i => [zv].toArray[i % [zv].toArray.size]!) = #[zv] := by kernel_rfl
 unfold sliceCells
 rw [hr]
 simp [Instr.fill, hc]
theorem opl_store_pt {B : Nat} {h0 : Heap} {rs : List Res} (st : St B h0 hp rs) (j : Nat) {p i : Nat} {T : TypeId} {cs : List Value} {v : Value} (hj : rs[j]? = some (pt p T cs)) (hx : ev E x = some (.pointer (some ⟨p, i, none⟩))) (hy : ev E y = some v)
  (hi : Nat.blt i cs.length = true) (ht : single P t = true) (h1 : Value.one v = true) :
  OpL P ⟨d, .store t x y, ty, pos, af, g⟩ E hp (fun _ hp' => St B h0 hp' (rs.set j (pt p T (cs.set i v)))) := by
 obtain ⟨S, ⟨hS, hb⟩, _⟩ := st.at_ hj
 have hi' : i < cs.length := by simpa [Nat.blt_eq] using hi
 have hc : cellH hp ⟨p, i, none⟩ = some cs[i] := by simp [cellH, hb, hi']
 have hf : frozenH hp ⟨p, i, none⟩ = false := by simp [frozenH, hb]
 intro n a w ho hw K hK
 exact opl_store hx hy ht h1 hc hf n a w ho hw K fun v' w' hi ⟨_, hh⟩ => hK v' w' hi (by rw [hh]; exact st.upd hj (upd_pt v))
theorem upd_row {e sz gb o n c i : Nat} {vs : List Value} {hp : Heap} (v : Value) : Upd (row e sz (.slice (some ⟨gb, o, none⟩) n c) vs) hp (row e sz (.slice (some ⟨gb, o, none⟩) n c) (vs.set i v)) (setH hp ⟨gb, o + i, none⟩ v) := by
 refine ⟨by rw [setH_size]; exact Nat.le_refl _, fun S hr => ?_⟩
 rcases hr with ⟨hh, _⟩ | ⟨g', n', cap, cur, fr, hh, h2, h3, h4, h5, h6, h7, h8, hS⟩
 ·cases hh
 ·cases hh
  refine ⟨S, .inr ⟨gb, n, c, cur.setIfInBounds i v, fr, rfl, ?_, h3, h4, by simpa using h5, ?_, by simpa using h7, by simpa using h8, hS⟩, fun k hk => .inl hk, fun k _ hk => setH_other _ _ _ _ (fun e => hk ((hS k).2 e))⟩
  ·rw [Nat.zero_add]; exact setH_same v h2
  ·rw [Array.toList_setIfInBounds, List.take_set, h6]
theorem opl_store_row {B : Nat} {h0 : Heap} {rs : List Res} (st : St B h0 hp rs) (j : Nat) {gb o e sz n c i : Nat} {vs : List Value} {v : Value} (hj : rs[j]? = some (row e sz (.slice (some ⟨gb, o, none⟩) n c) vs)) (hx : ev E x = some (.pointer (some ⟨gb, o + i, none⟩))) (hy : ev E y = some v)
  (hi : i < vs.length) (ht : single P t = true) (h1 : Value.one v = true) :
  OpL P ⟨d, .store t x y, ty, pos, af, g⟩ E hp (fun _ hp' => St B h0 hp' (rs.set j (row e sz (.slice (some ⟨gb, o, none⟩) n c) (vs.set i v)))) := by
 obtain ⟨S, hr, _⟩ := st.at_ hj
 have key : cellH hp ⟨gb, o + i, none⟩ = some vs[i] ∧ frozenH hp ⟨gb, o + i, none⟩ = false := by
  rcases hr with ⟨hh, _⟩ | ⟨g', n', cap, cur, fr, hh, h2, h3, h4, h5, h6, h7, h8, hS⟩
  ·cases hh
  ·cases hh
   have hlt : i < cur.size := by
    have : vs.length ≤ cur.size := by rw [h7, h5]; exact Nat.mul_le_mul_right _ h3
    omega
   constructor
   ·simp only [cellH, h2, Nat.zero_add]
    have : vs[i]? = cur[i]? := by
     rw [← h6, List.getElem?_take, if_pos (by omega)]; simp
    simp [← this, hi]
   ·have := h8.free i hlt
    simp only [frozenH, h2, Nat.zero_add]
    simpa using this
 intro m a w ho hw K hK
 exact opl_store hx hy ht h1 key.1 key.2 m a w ho hw K fun v' w' hi ⟨_, hh⟩ => hK v' w' hi (by rw [hh]; exact st.upd hj (upd_row v))
theorem new_row (hp : Heap) (e sz n : Nat) (cs : List Value) (hl : cs.length = n * sz) (hn : n ≤ maxLen) : New (row e sz (.slice (some ⟨hp.size, 0, none⟩) n n) cs) hp (hp.push (.cells cs.toArray e)) := by
 refine ⟨ext_push _ _, fun k => k = hp.size, .inr ⟨hp.size, n, n, cs.toArray, (0, 0), rfl, push_at _ _, Nat.le_refl _, hn, by simpa using hl, ?_, hl, ?_, fun _ => Iff.rfl⟩, fun k hk => by omega⟩
 ·rw [List.take_of_length_le (by simp; omega)]
 ·exact .inl rfl
theorem opl_lit1 {e bt : Nat} {zv v : Value} (hx : ev E x = some v) (h1 : Value.one v = true) (ht : sliceI P t = some (e, 1, bt, [zv])) :
  OpL P ⟨d, .buildSlice t 1 #[(0, x)], ty, pos, af, g⟩ E hp (fun u hp' => New (row e 1 u [v]) hp hp') := by
 intro n a w ho hw K hK
 exact opl_build1 hx h1 ht n a w ho hw K fun v' w' hi ⟨h1, h2⟩ => hK v' w' hi (by rw [h1, h2]; exact new_row hp e 1 1 [v] rfl (by simp [maxLen]))
theorem opl_var1 {e bt : Nat} {zv v : Value} (hx : ev E x = some v) (h1 : Value.one v = true) (ht : sliceI P t = some (e, 1, bt, [zv])) :
  OpL P ⟨d, .buildSlice t 1 #[(0, x)], ty, pos, af, g⟩ E hp (fun u hp' => ∃ A, u = .slice A 1 1 ∧ Ext hp hp' ∧ Rd hp' A [v]) := by
 intro n a w ho hw K hK
 exact opl_build1 hx h1 ht n a w ho hw K fun v' w' hi ⟨h1, h2⟩ => hK v' w' hi ⟨_, h1, by rw [h2]; exact ext_push _ _, by rw [h2]; exact rd_push _ _ _⟩
theorem opl_new {zs : List Value} (hz : zeroC P t = some zs) : OpL P ⟨d, .alloc t, ty, pos, af, g⟩ E hp (fun v hp' => ∃ p, v = .pointer (some ⟨p, 0, none⟩) ∧ New (pt p t zs) hp hp') := by
 intro n a w ho hw K hK
 exact opl_alloc hz n a w ho hw K fun v' w' hi ⟨h1, h2⟩ => hK v' w' hi ⟨_, h1, by rw [h2]; exact new_pt _⟩
theorem opl_bx {v : Value} {cs : List Value} (hx : ev E x = some v) (hc : v.cells = cs.toArray) : OpL P ⟨d, .box t x, ty, pos, af, g⟩ E hp (fun u hp' => ∃ p, u = .pointer (some ⟨p, 0, none⟩) ∧ New (pt p t cs) hp hp') := by
 intro n a w ho hw K hK
 exact opl_box hx hc n a w ho hw K fun v' w' hi ⟨h1, h2⟩ => hK v' w' hi ⟨_, h1, by rw [h2]; exact new_pt _⟩
theorem madeCells_rep (n : Nat) (z : Value) : ((Array.range (n * 1)).map (fun i => [z].toArray[i % [z].toArray.size]!)) = (List.replicate n z).toArray := by
 apply Array.ext
 ·simp
 ·intro i h1 h2
  simp [Nat.mod_one]
theorem opl_mk {e b : Nat} {zv : Value} {n : Nat} {k : IntKind} (hn : n * b ≤ 140737488355328) (hx : ev E x = some (.int k (n : Int))) (ht : sliceI P t = some (e, 1, b, [zv])) (hb : Nat.blt 0 b = true) :
  OpL P ⟨d, .makeSlice t x x, ty, pos, af, g⟩ E hp (fun v hp' => New (row e 1 v (List.replicate n zv)) hp hp') := by
 intro m a w ho hw K hK
 have hn1 : n ≤ 140737488355328 := Nat.le_trans (Nat.le_mul_of_pos_right _ (by simpa [Nat.blt_eq] using hb)) hn
 exact opl_make hx ht hb hn m a w ho hw K fun v' w' hi ⟨h1, h2⟩ => hK v' w' hi (by rw [h1, h2, madeCells_rep]; exact new_row hp e 1 n _ (by simp) (by simp only [maxLen]; omega))
theorem opl_lit0 {e sz b : Nat} {zs : List Value} (ht : sliceI P t = some (e, sz, b, zs)) : OpL P ⟨d, .buildSlice t 0 #[], ty, pos, af, g⟩ E hp (fun u hp' => New (row e sz u []) hp hp') := by
 intro n a w ho hw K hK
 subst hw
 obtain ⟨i, z, hu, hi, hz, hsz, _, hzc⟩ := sliceI_spec ht
 have hrun : (execOp a.eval ⟨d, .buildSlice t 0 #[], ty, pos, af, g⟩).run P w = .ok (.value (.slice (some ⟨w.heap.size, 0, none⟩) 0 0)) (w.alloc (.cells #[] e)) := by
  simp only [execOp, Instr.buildSlice, Sem.run_bind, run_underlying hu, Result.andThen_ok, sizeOf, typeInfo, program, Sem.run, hi, Sem.run_pure, Nat.zero_mul, if_true, List.map_toArray]
  simp [Instr.fill, run_newRow]
  exact congrArg (fun x => w.alloc (.cells x e)) (Array.ext (by simp) (fun i h1 _ => absurd h1 (by simp)))
 simp only [Oper.wp, hrun, Oper.upon]
 exact hK _ _ ⟨rfl, rfl, rfl⟩ (by
  have := new_row w.heap e sz 0 [] (by simp) (by simp [maxLen])
  exact this)
end
theorem St.nilrow {B : Nat} {h0 hp : Heap} {rs : List Res} (s : St B h0 hp rs) (e sz : Nat) : St B h0 hp (Bn.row e sz (.slice none 0 0) [] :: rs) := by
 obtain ⟨S, hS⟩ := s.own
 exact ⟨s.low, s.base, S, fun _ => False, S, .inl ⟨rfl, rfl, fun _ h => h⟩, hS, fun _ h => h.elim, fun k => (or_iff_right (fun h => h)).symm, fun _ h => h.elim⟩
end Go.Bn
end
