/- Resources: what is known of blocks of one's own; several lie apart from each other, and from block B on. -/
import Derived.Test.YtpkhilbgkkjebaaEng
namespace Go.Bn
open Go

structure Res where
  P : Heap → (Nat → Prop) → Prop
  loc : ∀ {h h' : Heap} {S : Nat → Prop}, P h S → (∀ k, S k → h'[k]? = h[k]?) → P h' S
  lt : ∀ {h : Heap} {S : Nat → Prop}, P h S → ∀ k, S k → k < h.size

def HS (B : Nat) (hp : Heap) : List Res → (Nat → Prop) → Prop
  | [], S => ∀ k, ¬ S k
  | r :: rs, S => ∃ S1 S2, r.P hp S1 ∧ HS B hp rs S2 ∧ (∀ k, S1 k → ¬ S2 k) ∧ (∀ k, S k ↔ S1 k ∨ S2 k) ∧ ∀ k, S1 k → B ≤ k
def H (B : Nat) (hp : Heap) (rs : List Res) : Prop := ∃ S, HS B hp rs S

theorem HS.lt {B : Nat} {hp : Heap} : ∀ {rs : List Res} {S : Nat → Prop}, HS B hp rs S → ∀ k, S k → k < hp.size
  | [], _, h, k, hk => absurd hk (h k)
  | r :: rs, S, ⟨S1, S2, h1, h2, _, hS, _⟩, k, hk => by
    rcases (hS k).1 hk with h | h
    · exact r.lt h1 k h
    · exact HS.lt h2 k h
theorem HS.ge {B : Nat} {hp : Heap} : ∀ {rs : List Res} {S : Nat → Prop}, HS B hp rs S → ∀ k, S k → B ≤ k
  | [], _, h, k, hk => absurd hk (h k)
  | r :: rs, S, ⟨S1, S2, _, h2, _, hS, hb⟩, k, hk => by
    rcases (hS k).1 hk with h | h
    · exact hb k h
    · exact HS.ge h2 k h
theorem HS.loc {B : Nat} {hp hp' : Heap} : ∀ {rs : List Res} {S : Nat → Prop}, HS B hp rs S → (∀ k, S k → hp'[k]? = hp[k]?) → HS B hp' rs S
  | [], _, h, _ => h
  | r :: _, _, ⟨S1, S2, h1, h2, hd, hS, hb⟩, he => ⟨S1, S2, r.loc h1 (fun k hk => he k ((hS k).2 (.inl hk))), HS.loc h2 (fun k hk => he k ((hS k).2 (.inr hk))), hd, hS, hb⟩
theorem HS.mono {B B' : Nat} {hp : Heap} (hB : B' ≤ B) : ∀ {rs : List Res} {S : Nat → Prop}, HS B hp rs S → HS B' hp rs S
  | [], _, h => h
  | _ :: _, _, ⟨S1, S2, h1, h2, hd, hS, hb⟩ => ⟨S1, S2, h1, HS.mono hB h2, hd, hS, fun k hk => Nat.le_trans hB (hb k hk)⟩
theorem HS.iff {B : Nat} {hp : Heap} : ∀ {rs : List Res} {S S' : Nat → Prop}, HS B hp rs S → (∀ k, S' k ↔ S k) → HS B hp rs S'
  | [], _, _, h, he => fun k hk => h k ((he k).1 hk)
  | _ :: _, _, _, ⟨S1, S2, h1, h2, hd, hS, hb⟩, he => ⟨S1, S2, h1, h2, hd, fun k => (he k).trans (hS k), hb⟩

theorem H.nil (B : Nat) (hp : Heap) : H B hp [] := ⟨fun _ => False, fun _ h => h⟩
theorem H.ext {B : Nat} {hp hp' : Heap} {rs : List Res} (h : H B hp rs) (hx : Ext hp hp') : H B hp' rs := by
  obtain ⟨S, h⟩ := h
  exact ⟨S, h.loc fun k hk => hx.blk k (h.lt k hk)⟩
theorem H.mono {B B' : Nat} {hp : Heap} {rs : List Res} (h : H B hp rs) (hB : B' ≤ B) : H B' hp rs := h.imp fun _ h => h.mono hB
theorem H.tail {B : Nat} {hp : Heap} {r : Res} {rs : List Res} (h : H B hp (r :: rs)) : H B hp rs := by
  obtain ⟨S, S1, S2, _, h2, _⟩ := h; exact ⟨S2, h2⟩
theorem H.head {B : Nat} {hp : Heap} {r : Res} {rs : List Res} (h : H B hp (r :: rs)) : ∃ S, r.P hp S := by
  obtain ⟨S, S1, S2, h1, _⟩ := h; exact ⟨S1, h1⟩
theorem H.swap {B : Nat} {hp : Heap} {r r' : Res} {rs : List Res} (h : H B hp (r :: r' :: rs)) : H B hp (r' :: r :: rs) := by
  obtain ⟨S, S1, S2, h1, ⟨T1, T2, k1, k2, kd, kS, kb⟩, hd, hS, hb⟩ := h
  refine ⟨S, T1, fun k => S1 k ∨ T2 k, k1, ⟨S1, T2, h1, k2, fun k hk ht => hd k hk ((kS k).2 (.inr ht)), fun _ => Iff.rfl, hb⟩, ?_, ?_, kb⟩
  · intro k hk hor
    rcases hor with h | h
    · exact hd k h ((kS k).2 (.inl hk))
    · exact kd k hk h
  · intro k
    rw [hS k, kS k]
    constructor
    · rintro (h | h | h)
      · exact .inr (.inl h)
      · exact .inl h
      · exact .inr (.inr h)
    · rintro (h | h | h)
      · exact .inr (.inl h)
      · exact .inl h
      · exact .inr (.inr h)
theorem HS.perm {B : Nat} {hp : Heap} {rs rs' : List Res} (hp' : List.Perm rs rs') : ∀ {S : Nat → Prop}, HS B hp rs S → HS B hp rs' S := by
  induction hp' with
  | nil => exact fun h => h
  | cons r _ ih => rintro S ⟨S1, S2, h1, h2, hd, hS, hb⟩; exact ⟨S1, S2, h1, ih h2, hd, hS, hb⟩
  | swap r r' l =>
    rintro S ⟨S1, S2, h1, ⟨T1, T2, k1, k2, kd, kS, kb⟩, hd, hS, hb⟩
    refine ⟨T1, fun k => S1 k ∨ T2 k, k1, ⟨S1, T2, h1, k2, fun k hk ht => hd k hk ((kS k).2 (.inr ht)), fun _ => Iff.rfl, hb⟩, ?_, ?_, kb⟩
    · intro k hk hor
      rcases hor with h | h
      · exact hd k h ((kS k).2 (.inl hk))
      · exact kd k hk h
    · intro k
      rw [hS k, kS k]
      constructor
      · rintro (h | h | h)
        · exact .inr (.inl h)
        · exact .inl h
        · exact .inr (.inr h)
      · rintro (h | h | h)
        · exact .inr (.inl h)
        · exact .inl h
        · exact .inr (.inr h)
  | trans _ _ ih1 ih2 => exact fun h => ih2 (ih1 h)
theorem H.perm {B : Nat} {hp : Heap} {rs rs' : List Res} (h : H B hp rs) (hp' : List.Perm rs rs') : H B hp rs' := h.imp fun _ h => h.perm hp'

/-- r becomes r': what is of r, and new blocks, may turn; all else stays. -/
def Upd (r : Res) (hp : Heap) (r' : Res) (hp' : Heap) : Prop :=
  hp.size ≤ hp'.size ∧ ∀ S, r.P hp S → ∃ S', r'.P hp' S' ∧ (∀ k, S' k → S k ∨ hp.size ≤ k) ∧ ∀ k, k < hp.size → ¬ S k → hp'[k]? = hp[k]?
theorem H.upd {B : Nat} {hp hp' : Heap} {r r' : Res} {rs : List Res} (h : H B hp (r :: rs)) (hB : B ≤ hp.size) (u : Upd r hp r' hp') : H B hp' (r' :: rs) ∧ Low B hp hp' := by
  obtain ⟨S, S1, S2, h1, h2, hd, hS, hb⟩ := h
  obtain ⟨hsz, u⟩ := u
  obtain ⟨S', hr', hfr, hk⟩ := u S1 h1
  refine ⟨⟨fun k => S' k ∨ S2 k, S', S2, hr', h2.loc (fun k hk2 => hk k (h2.lt k hk2) (fun h => hd k h hk2)), ?_, fun _ => Iff.rfl, ?_⟩, hsz, ?_⟩
  · intro k hk' hk2
    rcases hfr k hk' with h | h
    · exact hd k h hk2
    · have := h2.lt k hk2; omega
  · intro k hk'
    rcases hfr k hk' with h | h
    · exact hb k h
    · omega
  · intro k hkB
    exact hk k (by omega) (fun h => by have := hb k h; omega)

/-- r is made of new blocks. -/
def New (r : Res) (hp hp' : Heap) : Prop := Ext hp hp' ∧ ∃ S, r.P hp' S ∧ ∀ k, S k → hp.size ≤ k
theorem H.new {B : Nat} {hp hp' : Heap} {r : Res} {rs : List Res} (h : H B hp rs) (hB : B ≤ hp.size) (n : New r hp hp') : H B hp' (r :: rs) ∧ Low B hp hp' := by
  obtain ⟨S, h⟩ := h
  obtain ⟨hx, S1, h1, hk⟩ := n
  refine ⟨⟨fun k => S1 k ∨ S k, S1, S, h1, h.loc fun k hk => hx.blk k (h.lt k hk), fun k h1 h2 => ?_, fun _ => Iff.rfl, fun k h1 => Nat.le_trans hB (hk k h1)⟩, hx.mono hB⟩
  have := hk k h1; have := h.lt k h2; omega

/-- Several new ones. -/
theorem H.join {B : Nat} {hp hp' : Heap} {rs rs' : List Res} (h : H B hp rs) (hB : B ≤ hp.size) (hx : Ext hp hp') (h' : H hp.size hp' rs') : H B hp' (rs' ++ rs) := by
  obtain ⟨S, h⟩ := h
  obtain ⟨S', h'⟩ := h'
  have hl := h.loc (hp' := hp') fun k hk => hx.blk k (h.lt k hk)
  have key : ∀ {rs' : List Res} {S' : Nat → Prop}, HS hp.size hp' rs' S' → HS B hp' (rs' ++ rs) (fun k => S' k ∨ S k) := by
    intro rs'
    induction rs' with
    | nil => intro S' h'; exact hl.iff fun k => ⟨fun hk => hk.resolve_left (h' k), .inr⟩
    | cons r rs' ih =>
      rintro S' ⟨S1, S2, h1, h2, hd, hS, hb⟩
      refine ⟨S1, fun k => S2 k ∨ S k, h1, ih h2, ?_, ?_, fun k hk => Nat.le_trans hB (hb k hk)⟩
      · intro k hk hor
        rcases hor with h0 | h0
        · exact hd k hk h0
        · have := hb k hk; have := h.lt k h0; omega
      · intro k
        simp only [hS k, or_assoc]
  exact ⟨_, key h'⟩
theorem H.append_right {B : Nat} {hp : Heap} {rs rs' : List Res} (h : H B hp (rs ++ rs')) : H B hp rs' := by
  induction rs with
  | nil => exact h
  | cons r rs ih => exact ih h.tail
theorem H.append_left {B : Nat} {hp : Heap} {rs rs' : List Res} (h : H B hp (rs ++ rs')) : H B hp rs :=
  (h.perm List.perm_append_comm).append_right

/-! Kinds of resources. -/
def starR (a b : Res) : Res where
  P h S := ∃ S1 S2, a.P h S1 ∧ b.P h S2 ∧ (∀ k, S1 k → ¬ S2 k) ∧ ∀ k, S k ↔ S1 k ∨ S2 k
  loc := by
    rintro h h' S ⟨S1, S2, h1, h2, hd, hS⟩ he
    exact ⟨S1, S2, a.loc h1 (fun k hk => he k ((hS k).2 (.inl hk))), b.loc h2 (fun k hk => he k ((hS k).2 (.inr hk))), hd, hS⟩
  lt := by
    rintro h S ⟨S1, S2, h1, h2, hd, hS⟩ k hk
    rcases (hS k).1 hk with h | h
    · exact a.lt h1 k h
    · exact b.lt h2 k h
def exR {α : Type} (f : α → Res) : Res where
  P h S := ∃ x, (f x).P h S
  loc := by rintro h h' S ⟨x, hx⟩ he; exact ⟨x, (f x).loc hx he⟩
  lt := by rintro h S ⟨x, hx⟩; exact (f x).lt hx
/-- r, and a fact. -/
def andR (p : Prop) (r : Res) : Res where
  P h S := p ∧ r.P h S
  loc := by rintro h h' S ⟨hp, hx⟩ he; exact ⟨hp, r.loc hx he⟩
  lt := by rintro h S ⟨_, hx⟩; exact r.lt hx
def emp : Res where
  P _ S := ∀ k, ¬ S k
  loc := fun h _ => h
  lt := fun h k hk => absurd hk (h k)

theorem H.star {B : Nat} {hp : Heap} {a b : Res} {rs : List Res} : H B hp (starR a b :: rs) ↔ H B hp (a :: b :: rs) := by
  constructor
  · rintro ⟨S, S1, S2, ⟨T1, T2, t1, t2, td, tS⟩, h2, hd, hS, hb⟩
    refine ⟨S, T1, fun k => T2 k ∨ S2 k, t1, ⟨T2, S2, t2, h2, fun k hk => hd k ((tS k).2 (.inr hk)), fun _ => Iff.rfl, fun k hk => hb k ((tS k).2 (.inr hk))⟩, ?_, ?_, fun k hk => hb k ((tS k).2 (.inl hk))⟩
    · rintro k hk (h | h)
      · exact td k hk h
      · exact hd k ((tS k).2 (.inl hk)) h
    · intro k; simp only [hS k, tS k, or_assoc]
  · rintro ⟨S, T1, S', t1, ⟨T2, S2, t2, h2, td2, tS2, tb2⟩, hd, hS, hb⟩
    refine ⟨S, fun k => T1 k ∨ T2 k, S2, ⟨T1, T2, t1, t2, fun k hk h => hd k hk ((tS2 k).2 (.inl h)), fun _ => Iff.rfl⟩, h2, ?_, ?_, ?_⟩
    · rintro k (h | h) h'
      · exact hd k h ((tS2 k).2 (.inr h'))
      · exact td2 k h h'
    · intro k; simp only [hS k, tS2 k, or_assoc]
    · rintro k (h | h)
      · exact hb k h
      · exact tb2 k h
theorem H.ex {B : Nat} {hp : Heap} {α : Type} {f : α → Res} {rs : List Res} : H B hp (exR f :: rs) ↔ ∃ x, H B hp (f x :: rs) := by
  constructor
  · rintro ⟨S, S1, S2, ⟨x, hx⟩, r⟩; exact ⟨x, S, S1, S2, hx, r⟩
  · rintro ⟨x, S, S1, S2, hx, r⟩; exact ⟨S, S1, S2, ⟨x, hx⟩, r⟩
theorem H.and {B : Nat} {hp : Heap} {p : Prop} {r : Res} {rs : List Res} : H B hp (andR p r :: rs) ↔ p ∧ H B hp (r :: rs) := by
  constructor
  · rintro ⟨S, S1, S2, ⟨x, hx⟩, r⟩; exact ⟨x, S, S1, S2, hx, r⟩
  · rintro ⟨x, S, S1, S2, hx, r⟩; exact ⟨S, S1, S2, ⟨x, hx⟩, r⟩
theorem H.emp {B : Nat} {hp : Heap} {rs : List Res} : H B hp (Bn.emp :: rs) ↔ H B hp rs := by
  constructor
  · exact H.tail
  · rintro ⟨S, h⟩
    exact ⟨S, fun _ => False, S, fun _ h => h, h, fun _ h => h.elim, fun k => (or_iff_right (fun h => h)).symm, fun _ h => h.elim⟩

/-! Cells. -/
def cellH (hp : Heap) (a : Addr) : Option Value :=
  match hp[a.block]? with
  | some (.cells c _ _) => if a.spot.isSome then none else c[a.off]?
  | _ => none
theorem cell_world (w : World) (a : Addr) : w.cell? a = cellH w.heap a := rfl
def frozenH (hp : Heap) (a : Addr) : Bool :=
  match hp[a.block]? with
  | some (.cells _ _ (lo, hi)) => lo ≤ a.off && a.off < hi
  | _ => false
theorem frozen_world (w : World) (a : Addr) : w.frozen? a = frozenH w.heap a := rfl
theorem cellH_lt {hp : Heap} {a : Addr} {v : Value} (h : cellH hp a = some v) : a.block < hp.size := by
  unfold cellH at h
  split at h
  · rename_i hh; exact (Array.getElem?_eq_some_iff.1 hh).1
  · cases h
theorem cellH_ext {hp hp' : Heap} {a : Addr} {v : Value} (hx : Ext hp hp') (h : cellH hp a = some v) : cellH hp' a = some v := by
  have := cellH_lt h
  unfold cellH at *
  rw [hx.blk _ this]; exact h
theorem cellH_low {B : Nat} {hp hp' : Heap} {a : Addr} (hx : Low B hp hp') (h : a.block < B) : cellH hp' a = cellH hp a := by
  unfold cellH
  rw [hx.blk _ h]

/-- A block of cells, known whole. -/
def pt (p : Nat) (T : TypeId) (cs : List Value) : Res where
  P h S := (∀ k, S k ↔ k = p) ∧ h[p]? = some (.cells cs.toArray T (0, 0))
  loc := by rintro h h' S ⟨hS, hx⟩ he; exact ⟨hS, by rw [he p ((hS p).2 rfl)]; exact hx⟩
  lt := by rintro h S ⟨hS, hx⟩ k hk; rw [(hS k).1 hk]; exact (Array.getElem?_eq_some_iff.1 hx).1
theorem H.block {B : Nat} {hp : Heap} {p : Nat} {T : TypeId} {cs : List Value} {rs : List Res} (h : H B hp (pt p T cs :: rs)) : hp[p]? = some (.cells cs.toArray T (0, 0)) := by
  obtain ⟨S, hS⟩ := h.head; exact hS.2
theorem H.cell {B : Nat} {hp : Heap} {p : Nat} {T : TypeId} {cs : List Value} {rs : List Res} (h : H B hp (pt p T cs :: rs)) {i : Nat} {v : Value} (hv : cs[i]? = some v) : cellH hp ⟨p, i, none⟩ = some v := by
  simp [cellH, h.block, hv]
theorem H.ge {B : Nat} {hp : Heap} {p : Nat} {T : TypeId} {cs : List Value} {rs : List Res} (h : H B hp (pt p T cs :: rs)) : B ≤ p := by
  obtain ⟨S, S1, S2, h1, _, _, _, hb⟩ := h; exact hb p ((h1.1 p).2 rfl)

/-- A store into a block. -/
def setH (hp : Heap) (a : Addr) (v : Value) : Heap :=
  hp.modify a.block fun
    | .cells c elem frozen => .cells (if a.spot.isSome then c else c.setIfInBounds a.off v) elem frozen
    | o => o
theorem set_world (w : World) (a : Addr) (v : Value) : (w.setCell a v).heap = setH w.heap a v := rfl
theorem setH_size (hp : Heap) (a : Addr) (v : Value) : (setH hp a v).size = hp.size := by simp [setH]
theorem setH_other (hp : Heap) (a : Addr) (v : Value) (k : Nat) (hk : k ≠ a.block) : (setH hp a v)[k]? = hp[k]? := by
  simp only [setH, Array.getElem?_modify]; rw [if_neg (Ne.symm hk)]
theorem setH_same {hp : Heap} {p i : Nat} {cs : Array Value} {T : TypeId} {fr : Nat × Nat} (v : Value) (h : hp[p]? = some (.cells cs T fr)) : (setH hp ⟨p, i, none⟩ v)[p]? = some (.cells (cs.setIfInBounds i v) T fr) := by
  simp [setH, Array.getElem?_modify, h]
theorem upd_pt {p i : Nat} {T : TypeId} {cs : List Value} {hp : Heap} (v : Value) : Upd (pt p T cs) hp (pt p T (cs.set i v)) (setH hp ⟨p, i, none⟩ v) := by
  refine ⟨by rw [setH_size]; exact Nat.le_refl _, fun S ⟨hS, h⟩ => ⟨S, ⟨hS, ?_⟩, fun k hk => .inl hk, fun k _ hk => setH_other _ _ _ _ (fun e => hk ((hS k).2 e))⟩⟩
  rw [setH_same v h]
  simp
theorem new_pt {T : TypeId} {cs : List Value} (hp : Heap) : New (pt hp.size T cs) hp (hp.push (.cells cs.toArray T)) := by
  refine ⟨⟨by simp, fun k hk => by rw [Array.getElem?_push]; rw [if_neg (by omega)]⟩, fun k => k = hp.size, ⟨fun _ => Iff.rfl, by simp⟩, fun k hk => by omega⟩

/-! A slice of one's own: its first cells. sz: how many cells an element has. -/
def unfrozen (n : Nat) (fr : Nat × Nat) : Prop := fr.1 = fr.2 ∨ n ≤ fr.1
theorem unfrozen.free {n : Nat} {fr : Nat × Nat} (h : unfrozen n fr) : ∀ i, i < n → ¬ (fr.1 ≤ i ∧ i < fr.2) := by
  intro i hi hh; rcases h with h | h <;> omega
def RowAt (e : TypeId) (sz : Nat) (v : Value) (vs : List Value) (h : Heap) (S : Nat → Prop) : Prop :=
  (v = .slice none 0 0 ∧ vs = [] ∧ ∀ k, ¬ S k) ∨
  ∃ g n cap cur fr, v = .slice (some ⟨g, 0, none⟩) n cap ∧ h[g]? = some (.cells cur e fr) ∧ n ≤ cap ∧ cap ≤ maxLen ∧ cur.size = cap * sz ∧ cur.toList.take (n * sz) = vs ∧ vs.length = n * sz ∧ unfrozen cur.size fr ∧ ∀ k, S k ↔ k = g
def row (e : TypeId) (sz : Nat) (v : Value) (vs : List Value) : Res where
  P := RowAt e sz v vs
  loc := by
    rintro h h' S (⟨h1, h2, h3⟩ | ⟨g, n, cap, cur, fr, h1, h2, h3, h4, h5, h6, h7, h8, hS⟩) he
    · exact .inl ⟨h1, h2, h3⟩
    · exact .inr ⟨g, n, cap, cur, fr, h1, by rw [he g ((hS g).2 rfl)]; exact h2, h3, h4, h5, h6, h7, h8, hS⟩
  lt := by
    rintro h S (⟨h1, h2, h3⟩ | ⟨g, n, cap, cur, fr, h1, h2, h3, h4, h5, h6, h7, h8, hS⟩) k hk
    · exact absurd hk (h3 k)
    · rw [(hS k).1 hk]; exact (Array.getElem?_eq_some_iff.1 h2).1

/-- A slice that can be read: its cells, from wherever it begins. -/
def Rd (hp : Heap) (A : Option Addr) (vs : List Value) : Prop :=
  vs = [] ∨ ∃ b o, A = some ⟨b, o, none⟩ ∧ ∀ i u, vs[i]? = some u → cellH hp ⟨b, o + i, none⟩ = some u
theorem Rd.nil (hp : Heap) (A : Option Addr) : Rd hp A [] := .inl rfl
theorem Rd.at_ {hp : Heap} {A : Option Addr} {vs : List Value} (h : Rd hp A vs) (hl : 0 < vs.length) : ∃ b o, A = some ⟨b, o, none⟩ ∧ ∀ i u, vs[i]? = some u → cellH hp ⟨b, o + i, none⟩ = some u := by
  rcases h with rfl | h
  · simp at hl
  · exact h
theorem Rd.ext {hp hp' : Heap} {A : Option Addr} {vs : List Value} (h : Rd hp A vs) (hx : Ext hp hp') : Rd hp' A vs := by
  rcases h with h | ⟨b, o, hA, hc⟩
  · exact .inl h
  · exact .inr ⟨b, o, hA, fun i u hu => cellH_ext hx (hc i u hu)⟩
theorem Rd.low {B : Nat} {hp hp' : Heap} {A : Option Addr} {vs : List Value} (h : Rd hp A vs) (hb : ∀ a, A = some a → a.block < B) (hx : Low B hp hp') : Rd hp' A vs := by
  rcases h with h | ⟨b, o, hA, hc⟩
  · exact .inl h
  · exact .inr ⟨b, o, hA, fun i u hu => (cellH_low (a := ⟨b, o + i, none⟩) hx (hb ⟨b, o, none⟩ hA)).trans (hc i u hu)⟩
theorem Rd.take {hp : Heap} {A : Option Addr} {vs : List Value} (h : Rd hp A vs) (n : Nat) : Rd hp A (vs.take n) := by
  rcases h with rfl | ⟨b, o, hA, hc⟩
  · exact .inl (by simp)
  · refine .inr ⟨b, o, hA, fun i u hu => hc i u ?_⟩
    rw [List.getElem?_take] at hu
    split at hu
    · exact hu
    · cases hu
theorem RowAt.rd {e : TypeId} {sz : Nat} {v : Value} {vs : List Value} {h : Heap} {S : Nat → Prop} (hr : RowAt e sz v vs h S) : ∃ A n c, v = .slice A n c ∧ vs.length = n * sz ∧ n ≤ c ∧ c ≤ maxLen ∧ Rd h A vs := by
  rcases hr with ⟨rfl, rfl, _⟩ | ⟨g, n, cap, cur, fr, rfl, h2, h3, h4, h5, h6, h7, h8, hS⟩
  · exact ⟨none, 0, 0, rfl, by simp, Nat.le_refl _, by simp [maxLen], .inl rfl⟩
  · refine ⟨_, n, cap, rfl, h7, h3, h4, .inr ⟨g, 0, rfl, fun i u hu => ?_⟩⟩
    simp only [cellH, h2, Nat.zero_add]
    rw [← h6, List.getElem?_take] at hu
    split at hu
    · simpa using hu
    · cases hu

/-! At any place of the list. -/
theorem perm_set : ∀ {rs : List Res} {j : Nat} {r : Res}, rs[j]? = some r → List.Perm rs (r :: rs.eraseIdx j) ∧ ∀ r', List.Perm (r' :: rs.eraseIdx j) (rs.set j r')
  | [], _, _, h => by simp at h
  | x :: rs, 0, r, h => by
    simp at h; subst h
    exact ⟨List.Perm.refl _, fun r' => List.Perm.refl _⟩
  | x :: rs, j + 1, r, h => by
    obtain ⟨h1, h2⟩ := perm_set (rs := rs) (j := j) (r := r) (by simpa using h)
    refine ⟨?_, fun r' => ?_⟩
    · simp only [List.eraseIdx_cons_succ]
      exact (h1.cons x).trans (List.Perm.swap _ _ _)
    · simp only [List.eraseIdx_cons_succ, List.set_cons_succ]
      exact (List.Perm.swap _ _ _).trans ((h2 r').cons x)

/-- Since h0 nothing below block B has turned; what is of one's own lies from B on. -/
structure St (B : Nat) (h0 hp : Heap) (rs : List Res) : Prop where
  low : Low B h0 hp
  base : B ≤ h0.size
  own : H B hp rs
theorem St.here {B : Nat} {h0 hp : Heap} {rs : List Res} (s : St B h0 hp rs) : St B hp hp rs := ⟨Low.refl _ _, Nat.le_trans s.base s.low.size, s.own⟩
theorem St.start (hp : Heap) : St hp.size hp hp [] := ⟨Low.refl _ _, Nat.le_refl _, H.nil _ _⟩
theorem St.trans {B : Nat} {h0 hp hp' : Heap} {rs rs' : List Res} (s : St B h0 hp rs) (t : St B hp hp' rs') : St B h0 hp' rs' := ⟨s.low.trans t.low, s.base, t.own⟩
theorem St.ext {B : Nat} {h0 hp hp' : Heap} {rs : List Res} (s : St B h0 hp rs) (hx : Ext hp hp') : St B h0 hp' rs := ⟨s.low.then_ext s.base hx, s.base, s.own.ext hx⟩
theorem St.join {B : Nat} {h0 hp hp' : Heap} {rs rs' : List Res} (s : St B h0 hp rs) (t : St hp.size hp hp' rs') : St B h0 hp' (rs' ++ rs) :=
  ⟨s.low.then_ext s.base t.low, s.base, s.own.join (Nat.le_trans s.base s.low.size) t.low t.own⟩
theorem St.perm {B : Nat} {h0 hp : Heap} {rs rs' : List Res} (s : St B h0 hp rs) (h : List.Perm rs rs') : St B h0 hp rs' := ⟨s.low, s.base, s.own.perm h⟩
theorem St.tail {B : Nat} {h0 hp : Heap} {r : Res} {rs : List Res} (s : St B h0 hp (r :: rs)) : St B h0 hp rs := ⟨s.low, s.base, s.own.tail⟩
theorem St.drop {B : Nat} {h0 hp : Heap} {rs : List Res} (s : St B h0 hp rs) : St B h0 hp [] := ⟨s.low, s.base, H.nil _ _⟩
theorem St.at_ {B : Nat} {h0 hp : Heap} {rs : List Res} (s : St B h0 hp rs) {j : Nat} {r : Res} (hj : rs[j]? = some r) : ∃ S, r.P hp S ∧ ∀ k, S k → B ≤ k := by
  obtain ⟨S, S1, S2, h1, _, _, _, hb⟩ := s.own.perm (perm_set hj).1
  exact ⟨S1, h1, hb⟩
theorem St.upd {B : Nat} {h0 hp hp' : Heap} {rs : List Res} (s : St B h0 hp rs) {j : Nat} {r r' : Res} (hj : rs[j]? = some r) (u : Upd r hp r' hp') : St B h0 hp' (rs.set j r') := by
  obtain ⟨h1, h2⟩ := (s.own.perm (perm_set hj).1).upd (Nat.le_trans s.base s.low.size) u
  exact ⟨s.low.trans h2, s.base, h1.perm ((perm_set hj).2 r')⟩
theorem St.new {B : Nat} {h0 hp hp' : Heap} {rs : List Res} (s : St B h0 hp rs) {r : Res} (n : New r hp hp') : St B h0 hp' (r :: rs) := by
  obtain ⟨h1, h2⟩ := s.own.new (Nat.le_trans s.base s.low.size) n
  exact ⟨s.low.trans h2, s.base, h1⟩
theorem St.mono {B B' : Nat} {h0 hp : Heap} {rs : List Res} (s : St B h0 hp rs) (h : B' ≤ B) : St B' h0 hp rs := ⟨s.low.mono h, Nat.le_trans h s.base, s.own.mono h⟩
theorem St.cell {B : Nat} {h0 hp : Heap} {rs : List Res} (s : St B h0 hp rs) (j : Nat) {p i : Nat} {T : TypeId} {cs : List Value} {v : Value} (hj : rs[j]? = some (pt p T cs)) (hv : cs[i]? = some v) : cellH hp ⟨p, i, none⟩ = some v := by
  obtain ⟨S, h, _⟩ := s.at_ hj
  simp [cellH, h.2, hv]
theorem St.row {B : Nat} {h0 hp : Heap} {rs : List Res} (s : St B h0 hp rs) (j : Nat) {e sz : Nat} {v : Value} {vs : List Value} (hj : rs[j]? = some (row e sz v vs)) :
    ∃ A n c, v = .slice A n c ∧ vs.length = n * sz ∧ n ≤ c ∧ c ≤ maxLen ∧ Rd hp A vs := by
  obtain ⟨S, h, _⟩ := s.at_ hj
  exact h.rd
/-- What a slice of one's own holds can be read. -/
theorem St.rdS {B : Nat} {h0 hp : Heap} {rs : List Res} (s : St B h0 hp rs) (j : Nat) {e sz n c : Nat} {A : Option Addr} {vs : List Value} (hj : rs[j]? = some (Bn.row e sz (.slice A n c) vs)) : vs.length = n * sz ∧ Rd hp A vs := by
  obtain ⟨A', n', c', he, h1, _, _, h2⟩ := s.row j hj
  cases he
  exact ⟨h1, h2⟩
theorem St.star {B : Nat} {h0 hp : Heap} {a b : Res} {rs : List Res} : St B h0 hp (starR a b :: rs) ↔ St B h0 hp (a :: b :: rs) :=
  ⟨fun s => ⟨s.low, s.base, H.star.1 s.own⟩, fun s => ⟨s.low, s.base, H.star.2 s.own⟩⟩
theorem St.ex {B : Nat} {h0 hp : Heap} {α : Type} {f : α → Res} {rs : List Res} : St B h0 hp (exR f :: rs) ↔ ∃ x, St B h0 hp (f x :: rs) :=
  ⟨fun s => (H.ex.1 s.own).imp fun _ h => ⟨s.low, s.base, h⟩, fun ⟨x, s⟩ => ⟨s.low, s.base, H.ex.2 ⟨x, s.own⟩⟩⟩
theorem St.and {B : Nat} {h0 hp : Heap} {p : Prop} {r : Res} {rs : List Res} : St B h0 hp (andR p r :: rs) ↔ p ∧ St B h0 hp (r :: rs) :=
  ⟨fun s => ⟨(H.and.1 s.own).1, s.low, s.base, (H.and.1 s.own).2⟩, fun ⟨h, s⟩ => ⟨s.low, s.base, H.and.2 ⟨h, s.own⟩⟩⟩
theorem St.emp {B : Nat} {h0 hp : Heap} {rs : List Res} : St B h0 hp (Bn.emp :: rs) ↔ St B h0 hp rs :=
  ⟨fun s => ⟨s.low, s.base, H.emp.1 s.own⟩, fun s => ⟨s.low, s.base, H.emp.2 s.own⟩⟩
end Go.Bn
