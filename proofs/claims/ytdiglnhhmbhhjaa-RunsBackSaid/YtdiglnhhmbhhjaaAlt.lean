/- A region of which two operations that grow the heap may come in either order. -/
import Derived.Test.YtdiglnhhmbhhjaaOps8
import Derived.Scope
namespace Go.Bn
open Go

def schK (cs : CF) (ops : Array Oper) (b : Array Nat) (fin : Array Bool → Bool) : List Nat → Array Bool → Bool
  | [], listed => fin listed
  | k :: rest, listed => (match ops[k]? with
      | none => false
      | some ok => match cs k ok with
        | .pure | .load => (Region.ready .any ops listed).contains k && quietAt cs ops b listed k
        | _ => Region.ready .any ops listed == [k]) && schK cs ops b fin rest (listed.setIfInBounds k true)
/-- Behind pre, either x1 and r1, or x2 and r2. -/
def schB2 (cs : CF) (ops : Array Oper) (pre : List Nat) (x1 : Nat) (r1 : List Nat) (x2 : Nat) (r2 : List Nat) : Bool :=
  Region.noSelect ops && befOk (Region.before ops) ops && Nat.beq (pre.length + (r1.length + 1)) ops.size && Nat.beq r1.length r2.length &&
  schK cs ops (Region.before ops) (fun listed => Region.ready .any ops listed == [x1, x2] && sch cs ops (Region.before ops) r1 (listed.setIfInBounds x1 true) && sch cs ops (Region.before ops) r2 (listed.setIfInBounds x2 true))
    pre (Array.replicate ops.size false)

theorem rgl_anyK {cs : CF} {P : Program} {ops : Array Oper} {N N' : Act → World → Prop} {b : Array Nat} {m : Nat} {fin : Array Bool → Bool} (hs : Region.noSelect ops = true) (hbk : befOk b ops = true)
    (hf : ∀ (listed : Array Bool) (a : Act) (w : World), Closed ops listed → fin listed = true → N' a w → anyC cs P ops N m listed a w) :
    ∀ (ord : List Nat) (listed : Array Bool) (a : Act) (w : World), Closed ops listed → schK cs ops b fin ord listed = true → rgl cs P ops N' ord a w → anyC cs P ops N (ord.length + m) listed a w
  | [], listed, a, w, hc, hB, h => by rw [List.length_nil, Nat.zero_add]; exact hf listed a w hc hB h
  | k :: rest, listed, a, w, hc, hB, h => by
    rw [show (k :: rest).length + m = (rest.length + m) + 1 by simp; omega]
    simp only [schK, Bool.and_eq_true] at hB
    obtain ⟨h1, h2⟩ := hB
    have h0 : stepI cs P ops k a w (rgl cs P ops N' rest) := h
    obtain ⟨ok, hok, _⟩ := id h0
    have quiet : (cs k ok = .pure ∨ cs k ok = .load) → (Region.ready .any ops listed).contains k = true → quietAt cs ops b listed k = true → anyC cs P ops N (rest.length + m + 1) listed a w := by
      intro hcl hr hq
      have hrk : k ∈ Region.ready .any ops listed := by simpa using hr
      have hklt := (Array.getElem?_eq_some_iff.1 hok).1
      obtain ⟨v, hy, hk⟩ := gives_of_stepI hok hcl h0
      refine anyC_first hok (Region.noSelect_spec hs) (fun l => Closed ops l ∧ ∀ j, listed.getD j true = true → l.getD j true = true) ?_ ?_ (rest.length + m) listed a w ⟨hc, fun _ h => h⟩ hrk hy
        (rgl_anyK hs hbk hf rest _ _ _ (hc.set hrk) h2 hk)
      · intro l j ⟨hcl', hmono⟩ hj hne hun
        refine ⟨hcl'.set hj, fun i hi => ?_⟩
        by_cases hji : j = i
        · subst hji
          have hlt : j < l.size := by
            rcases Nat.lt_or_ge j l.size with h | h
            · exact h
            · exact absurd (mem_ready.1 hj).1 (by simp [Array.getElem?_eq_none h])
          simp [hlt]
        · rw [getD_set_ne true hji]; exact hmono i hi
      · intro l j oj ⟨hcl', hmono⟩ hoj hj hne hun
        have hjlt := (Array.getElem?_eq_some_iff.1 hoj).1
        obtain ⟨hjun, oj', hoj', hall⟩ := mem_ready.1 hj
        obtain rfl : oj' = oj := Option.some.inj (hoj'.symm.trans hoj)
        unfold quietAt at hq
        simp only [hok] at hq
        have h3 := List.all_eq_true.1 hq j (List.mem_range.2 hjlt)
        have hnl : listed.getD j true = false := by
          cases hl : listed.getD j true with
          | false => rfl
          | true => rw [hmono j hl] at hjun; cases hjun
        simp only [hnl, hoj, Bool.or_false, Bool.or_eq_true, Bool.and_eq_true] at h3
        rcases h3 with (h3 | h3) | h3
        · exact absurd (Nat.eq_of_beq_eq_true h3) hne
        · exfalso
          obtain ⟨e, he, hbi, hlt, hor⟩ := befOk_spec hbk hoj hklt h3
          have hle := hall e he hbi
          rcases hor with rfl | hb'
          · exact not_both hun hle
          · exact closed_not hbk hcl' hklt hun e.on hle hb' (by omega)
        · have h4 := h3
          refine ⟨h4.1, fun hl hw => ?_⟩
          have h5 := h4.2
          rw [hl, hw] at h5
          cases h5
    have loud : Region.ready .any ops listed = [k] → anyC cs P ops N (rest.length + m + 1) listed a w := by
      intro hr
      refine ⟨fun h => (by rw [hr] at h; cases h), fun i hi => ?_⟩
      rw [hr] at hi
      obtain rfl : i = k := by simpa using hi
      exact h0.mono fun a' w' h' => rgl_anyK hs hbk hf rest _ _ _ (hc.set (by rw [hr]; simp)) h2 h'
    simp only [hok] at h1
    generalize hcl : cs k ok = cl at h1
    cases cl with
    | pure => simp only [Bool.and_eq_true] at h1; exact quiet (.inl hcl) h1.1 h1.2
    | load => simp only [Bool.and_eq_true] at h1; exact quiet (.inr hcl) h1.1 h1.2
    | grow => exact loud (by simpa using h1)
    | wild => exact loud (by simpa using h1)

theorem wp_region_two {r : Option Nat} {P : Program} {id : Nat} {ops : Array Oper} {Q : Exit → Act → World → Prop} {a : Act} {w : World} (cs : CF) (pre : List Nat) (x1 : Nat) (r1 : List Nat) (x2 : Nat) (r2 : List Nat)
    (hD : r = none ∨ noDefer ops = true) (hm : P.follows .mixedOrders = true) (hB : schB2 cs ops pre x1 r1 x2 r2 = true)
    (h : rgl cs P ops (fun a w => rgl cs P ops (Q .normal) (x1 :: r1) a w ∧ rgl cs P ops (Q .normal) (x2 :: r2) a w) pre a { w with drawn := w.drawn + 1 }) : (Code.region id ops true).wpIn (wdF r) 0 P Q a w := by
  simp only [schB2, Bool.and_eq_true] at hB
  obtain ⟨⟨⟨⟨hs, hb⟩, hl⟩, hl2⟩, hsch⟩ := hB
  refine wpIn_region_any hm (anyC.wpAny (cs := cs) hD _ _ _ _ ?_)
  have key := rgl_anyK (N := Q .normal) (m := r1.length + 1) hs hb ?_ pre (Array.replicate ops.size false) a { w with drawn := w.drawn + 1 } (fun j oj _ hl' => absurd hl' (by
    rw [getD_replicate_false]; exact Bool.false_ne_true)) hsch h
  · rw [Nat.eq_of_beq_eq_true hl] at key
    exact key
  · intro listed a w hc hf hN
    simp only [Bool.and_eq_true] at hf
    obtain ⟨⟨hr, hs1⟩, hs2⟩ := hf
    have hr : Region.ready .any ops listed = [x1, x2] := by simpa using hr
    refine ⟨fun h => (by rw [hr] at h; cases h), fun i hi => ?_⟩
    rw [hr] at hi
    rcases List.mem_cons.1 hi with rfl | hi'
    · exact stepI.mono (fun a' w' h' => rgl_any hs hb r1 _ _ _ (hc.set (by rw [hr]; simp)) hs1 h') hN.1
    · obtain rfl : i = x2 := by simpa using hi'
      have := stepI.mono (fun a' w' h' => rgl_any hs hb r2 _ _ _ (hc.set (by rw [hr]; simp)) hs2 h') hN.2
      rw [← Nat.eq_of_beq_eq_true hl2] at this
      exact this

theorem rgp_mono {cs : CF} {P : Program} {ops : Array Oper} {N N' : Act → World → Prop} (hm : ∀ a w, N a w → N' a w) : ∀ (l : List (Nat × Oper)) (a : Act) (w : World), rgp cs P ops N l a w → rgp cs P ops N' l a w
  | [], a, w, h => hm a w h
  | (i, o) :: rest, a, w, h => by
    simp only [rgp] at h ⊢
    split
    · rename_i hw; rw [if_pos hw] at h; exact h.mono (rgp_mono hm rest)
    · rename_i hw; rw [if_neg hw] at h; exact rgp_mono hm rest _ _ h
/-- What is meant to hold where two roads meet. -/
def MeetJ (c : Cx) {σ : Type} (EI : σ → Env) (HI : σ → Heap → Prop) (a : Act) (w : World) : Prop := ∃ s, (OK c.fn.ntmps (EI s) a ∧ a.defers = c.D) ∧ Inv c.w0 w ∧ HI s w.heap
def AltJ (c : Cx) (cs : CF) (ops : Array Oper) (l1 l2 : List (Nat × Oper)) (k : List SItem) (a : Act) (w : World) : Prop := rgp cs c.P ops (SQ c k .normal) l1 a w ∧ rgp cs c.P ops (SQ c k .normal) l2 a w
variable {c : Cx} {k : List SItem} {E : Env} {hp : Heap}
attribute [local semireducible] X XR in
theorem X_draw_two {id : Nat} {l : List Oper} (cs : CF) (pre : List Nat) (x1 : Nat) (r1 : List Nat) (x2 : Nat) (r2 : List Nat) {lp l1 l2 : List (Nat × Oper)} (hm : c.P.follows .mixedOrders = true)
    (hB : schB2 cs l.toArray pre x1 r1 x2 r2 = true) (hl : pick l pre = some lp) (hl1 : pick l (x1 :: r1) = some l1) (hl2 : pick l (x2 :: r2) = some l2)
    (h : XR c cs l.toArray lp (.inv (AltJ c cs l.toArray l1 l2 k) :: k) E hp) (hD0 : c.r = none ∨ noDeferL l = true := by first | exact .inl rfl | exact .inr rfl) : X c (.code (.region id l.toArray true) :: k) E hp := by
  intro a w ho hi hw
  have hD := hD0.imp (fun hh => hh) noDeferL_spec
  refine wp_region_two cs pre x1 r1 x2 r2 hD hm hB ?_
  obtain ⟨h1, h2⟩ := pick_spec hl
  obtain ⟨h11, h12⟩ := pick_spec hl1
  obtain ⟨h21, h22⟩ := pick_spec hl2
  have h0 := h a { w with drawn := w.drawn + 1 } ho ⟨hi.os, hi.tape, hi.output⟩ hw
  have hN : ∀ (a : Act) (w : World), SQ c (.inv (AltJ c cs l.toArray l1 l2 k) :: k) .normal a w → (rgl cs c.P l.toArray (SQ c k .normal) (x1 :: r1) a w ∧ rgl cs c.P l.toArray (SQ c k .normal) (x2 :: r2) a w) := by
    intro a w hx
    have hx : AltJ c cs l.toArray l1 l2 k a w := hx
    refine ⟨?_, ?_⟩
    · have := rgp_rgl _ (fun p hp => by simpa using h12 p hp) a w hx.1
      rwa [h11] at this
    · have := rgp_rgl _ (fun p hp => by simpa using h22 p hp) a w hx.2
      rwa [h21] at this
  have := rgp_rgl _ (fun p hp => by simpa using h2 p hp) a { w with drawn := w.drawn + 1 } (rgp_mono hN _ _ _ h0)
  rwa [h1] at this
attribute [local semireducible] X XR in
/-- Two roads, that meet where EI and HI hold. -/
theorem X_alt {σ : Type} (EI : σ → Env) (HI : σ → Heap → Prop) {cs : CF} {ops : Array Oper} {l1 l2 : List (Nat × Oper)} (h1 : XR c cs ops l1 (.inv (MeetJ c EI HI) :: k) E hp) (h2 : XR c cs ops l2 (.inv (MeetJ c EI HI) :: k) E hp)
    (hk : ∀ s hp, HI s hp → X c k (EI s) hp) : X c (.inv (AltJ c cs ops l1 l2 k) :: k) E hp := by
  intro a w ho hi hw
  have hN : ∀ (a : Act) (w : World), SQ c (.inv (MeetJ c EI HI) :: k) .normal a w → SQ c k .normal a w := by
    rintro a w ⟨s, ho, hi, hh⟩
    exact hk s _ hh a w ho hi rfl
  exact ⟨rgp_mono hN _ _ _ (h1 a w ho hi hw), rgp_mono hN _ _ _ (h2 a w ho hi hw)⟩
attribute [local semireducible] X XR in
theorem X_meet {σ : Type} {EI : σ → Env} {HI : σ → Heap → Prop} (s : σ) (hE : Sub (EI s) E) (h : HI s hp) : X c (.inv (MeetJ c EI HI) :: k) E hp := fun _ _ ho hi hw => ⟨s, ⟨ho.1.sub hE, ho.2⟩, hi, by rw [hw]; exact h⟩
theorem SQ_mono {k' : List SItem} (hn : ∀ a w, SQ c k' .normal a w → SQ c k .normal a w) (he : ∀ e a w, e ≠ .normal → SQ c k' e a w → SQ c k e a w) (x : Code) (a : Act) (w : World) (h : SQ c (.code x :: k') .normal a w) : SQ c (.code x :: k) .normal a w := by
  have h : x.wpIn (wdF c.r) 0 c.P (SQ c k') a w := h
  show x.wpIn (wdF c.r) 0 c.P (SQ c k) a w
  refine wpIn_mono h (fun e a w hx => ?_)
  by_cases hh : e = .normal
  · subst hh; exact hn a w hx
  · exact he e a w hh hx
attribute [local semireducible] X XR in
/-- Behind x all roads meet. -/
theorem X_cut {σ : Type} (EI : σ → Env) (HI : σ → Heap → Prop) {x : Code} (h : X c (.code x :: .inv (MeetJ c EI HI) :: k) E hp) (hk : ∀ s hp, HI s hp → X c k (EI s) hp) : X c (.code x :: k) E hp := by
  intro a w ho hi hw
  refine SQ_mono ?_ ?_ x a w (h a w ho hi hw)
  · rintro a w ⟨s, ho, hi, hh⟩
    exact hk s _ hh a w ho hi rfl
  · intro e a w hn hx
    cases e <;> first | exact hx | exact absurd rfl hn
attribute [irreducible] MeetJ AltJ
theorem SQ_goto : ∀ (k : List SItem) (l : Nat) (a : Act) (w : World), SQ c k (.goto l) a w → c.B (.goto l) a w
  | [], _, _, _, h => h
  | .code _ :: k, l, a, w, h => SQ_goto k l a w h
  | .blk _ :: k, l, a, w, h => SQ_goto k l a w h
  | .inv _ :: k, l, a, w, h => SQ_goto k l a w h
attribute [local semireducible] X in
/-- A scope without a goto. -/
theorem X_scope {x : Code} (hr : c.r = none) (hB : ∀ l a w, ¬ c.B (.goto l) a w) (h : X c (.code x :: k) E hp) : X c (.code (.scope x) :: k) E hp := by
  intro a w ho hi hw
  have h1 : x.wpIn (wdF c.r) 0 c.P (SQ c k) a w := h a w ho hi hw
  show (Code.scope x).wpIn (wdF c.r) 0 c.P (SQ c k) a w
  rw [hr, wdF_none, wpIn_wide] at h1 ⊢
  refine wp_scope_straight (wp_mono h1 ?_)
  intro e a w hx
  cases e with
  | goto l => exact hB l a w (SQ_goto k l a w hx)
  | _ => exact hx
end Go.Bn
