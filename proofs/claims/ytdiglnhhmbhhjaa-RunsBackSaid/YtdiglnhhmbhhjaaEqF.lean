/- Equality of values that are made of numbers, bools and strings, whatever their type. -/
import Derived.Test.YtdiglnhhmbhhjaaOps8
import Derived.Test.YtdiglnhhmbhhjaaRowT
set_option linter.unusedSimpArgs false
set_option linter.unusedVariables false
namespace Go.Bn
open Go

def fitsV : Sh → Value → Bool
  | .i k, .int k' _ => decide (k = k')
  | .b, .bool _ => true
  | .str, .string _ => true
  | _, _ => false
def fitsL : List Sh → List Value → Bool
  | [], [] => true
  | k :: ks, v :: vs => fitsV k v && fitsL ks vs
  | _, _ => false
def eqv : Value → Value → Bool
  | .int _ a, .int _ b => a == b
  | .bool a, .bool b => a == b
  | .string a, .string b => a.toList == b.toList
  | _, _ => false
def eqL : List Value → List Value → Bool
  | [], [] => true
  | a :: l, b :: m => eqv a b && eqL l m
  | _, _ => false
def isSome? {α : Type} : Option α → Bool
  | some _ => true
  | none => false
def eqKF (P : Program) (rec : TypeId → Option (List Sh)) : Nat → List Field → Option (List Sh)
  | _, [] => some []
  | o, f :: r => match Nat.beq f.offset o && (f.name != "_"), rec f.type with
    | true, some ks => match (match single P f.type with | true => Nat.beq ks.length 1 | false => (match aggN P f.type with | some n => Nat.beq n ks.length | none => false)), eqKF P rec (o + ks.length) r with
      | true, some rest => some (ks ++ rest)
      | _, _ => none
    | _, _ => none
def eqK (P : Program) : Nat → TypeId → Option (List Sh)
  | 0, _ => none
  | d + 1, t => match P.underlying t with
    | some (.int k) => some [.i k]
    | some .bool => some [.b]
    | some .string => some [.str]
    | some (.struct fs) => match P.stoodInHeld t with
      | true => none
      | false => eqKF P (eqK P d) 0 fs.toList
    | _ => none
theorem fitsL_split : ∀ {ks ks' : List Sh} {l : List Value}, fitsL (ks ++ ks') l = true → fitsL ks (l.take ks.length) = true ∧ fitsL ks' (l.drop ks.length) = true
  | [], ks', l, h => ⟨by simp [fitsL], by simpa using h⟩
  | k :: ks, ks', [], h => by simp [fitsL] at h
  | k :: ks, ks', v :: l, h => by
    simp only [List.cons_append, fitsL, Bool.and_eq_true] at h
    obtain ⟨h1, h2⟩ := fitsL_split h.2
    simp [fitsL, h.1, h1, h2]
theorem fitsL_len : ∀ {ks : List Sh} {l : List Value}, fitsL ks l = true → l.length = ks.length
  | [], [], _ => rfl
  | [], _ :: _, h => by simp [fitsL] at h
  | _ :: _, [], h => by simp [fitsL] at h
  | _ :: ks, _ :: l, h => by
    simp only [fitsL, Bool.and_eq_true] at h
    simp [fitsL_len h.2]
theorem eqL_split : ∀ (n : Nat) {l m : List Value}, l.length = m.length → eqL l m = (eqL (l.take n) (m.take n) && eqL (l.drop n) (m.drop n))
  | 0, l, m, _ => by simp [eqL]
  | n + 1, [], [], _ => by simp [eqL]
  | n + 1, [], _ :: _, h => by simp at h
  | n + 1, _ :: _, [], h => by simp at h
  | n + 1, a :: l, b :: m, h => by
    simp only [List.take_succ_cons, List.drop_succ_cons, eqL]
    rw [eqL_split n (by simpa using h), Bool.and_assoc]
theorem part_one {P : Program} {t : TypeId} {xs : List Value} {o : Nat} {v : Value} {r : List Value} (h : single P t = true) (hx : xs.drop o = v :: r) (w : World) : (part t xs.toArray o).run P w = .ok v w := by
  have e : xs[o]? = some v := by
    have := congrArg (·[0]?) hx
    simpa using this
  simp [part, run_isAgg_single h, e]
theorem part_agg {P : Program} {t : TypeId} {xs : List Value} {o n : Nat} (h : aggN P t = some n) (w : World) : (part t xs.toArray o).run P w = .ok (.agg ((xs.drop o).take n).toArray) w := by
  have e : xs.toArray.extract o (o + n) = ((xs.drop o).take n).toArray := by
    apply Array.ext'
    simp [List.take_drop]
  simp [part, run_isAgg_agg h, run_sizeOf_agg h, e]
theorem run_eq_flat {P : Program} : ∀ (dd d : Nat) {t : TypeId} {ks : List Sh}, eqK P dd t = some ks → dd ≤ d →
    (∀ (x y : Value) (w : World), single P t = true → fitsL ks [x] = true → fitsL ks [y] = true → (Op.equalIn d t x y).run P w = .ok (eqv x y) w) ∧
    (∀ (xs ys : List Value) (w : World), isSome? (aggN P t) = true → fitsL ks xs = true → fitsL ks ys = true → (Op.equalIn d t (.agg xs.toArray) (.agg ys.toArray)).run P w = .ok (eqL xs ys) w)
  | 0, _, _, _, h, _ => by simp [eqK] at h
  | dd + 1, 0, _, _, _, h => by omega
  | dd + 1, d + 1, t, ks, h, hd => by
    unfold eqK at h
    split at h
    · rename_i k hu
      cases h
      refine ⟨fun x y w _ hx hy => ?_, fun xs ys w ha => ?_⟩
      · cases x <;> simp [fitsL, fitsV] at hx
        cases y <;> simp [fitsL, fitsV] at hy
        subst hx hy
        rw [run_equalIn_int w d t _ _ _ _ hu]; rfl
      · rw [aggN, hu] at ha; cases ha
    · rename_i hu
      cases h
      refine ⟨fun x y w _ hx hy => ?_, fun xs ys w ha => ?_⟩
      · cases x <;> simp [fitsL, fitsV] at hx
        cases y <;> simp [fitsL, fitsV] at hy
        rw [run_equalIn_bool' w d t _ _ hu]; rfl
      · rw [aggN, hu] at ha; cases ha
    · rename_i hu
      cases h
      refine ⟨fun x y w _ hx hy => ?_, fun xs ys w ha => ?_⟩
      · cases x <;> simp [fitsL, fitsV] at hx
        cases y <;> simp [fitsL, fitsV] at hy
        rw [run_equalIn_string w d t _ _ hu]; rfl
      · rw [aggN, hu] at ha; cases ha
    · rename_i fs hu
      split at h
      · cases h
      · rename_i hst
        have hfo : P.fieldsOf t = fs := by simp [Program.fieldsOf, hu]
        have hu' : P.underlying t = some (.struct (P.fieldsOf t)) := by rw [hfo]; exact hu
        refine ⟨fun x y w hs => ?_, fun xs ys w _ hx hy => ?_⟩
        · rw [single, hu] at hs; cases hs
        · rw [run_equalIn_agg w d t _ _ hu' hst, hfo]
          have hlen : xs.length = ys.length := by rw [fitsL_len hx, fitsL_len hy]
          suffices key : ∀ (l : List Field) (o : Nat) (ks : List Sh), eqKF P (eqK P dd) o l = some ks → fitsL ks (xs.drop o) = true → fitsL ks (ys.drop o) = true → (Op.eqFields d xs.toArray ys.toArray l).run P w = .ok (eqL (xs.drop o) (ys.drop o)) w by
            have := key fs.toList 0 ks h (by simpa using hx) (by simpa using hy)
            simpa using this
          intro l
          induction l with
          | nil =>
            intro o ks h hx hy
            simp only [eqKF, Option.some.injEq] at h
            subst h
            have e1 := List.eq_nil_of_length_eq_zero (fitsL_len hx)
            have e2 := List.eq_nil_of_length_eq_zero (fitsL_len hy)
            rw [e1, e2]; simp [Op.eqFields, eqL]
          | cons f r ih =>
            intro o ks h hx hy
            simp only [eqKF] at h
            split at h
            · rename_i k1 hon hk
              simp only [Bool.and_eq_true, bne_iff_ne] at hon
              have ho := Nat.eq_of_beq_eq_true hon.1
              split at h
              · rename_i rest hc hr
                cases h
                obtain ⟨x1, x2⟩ := fitsL_split hx
                obtain ⟨y1, y2⟩ := fitsL_split hy
                rw [List.drop_drop] at x2 y2
                have ihh := ih (o + k1.length) rest hr x2 y2
                obtain ⟨g1, g2⟩ := run_eq_flat dd d hk (by omega)
                simp only [Op.eqFields, hon.2, ne_eq, not_false_eq_true, if_true, Sem.run_bind, ho]
                have hrec : ∃ a b, (part f.type xs.toArray o).run P w = .ok a w ∧ (part f.type ys.toArray o).run P w = .ok b w ∧ (Op.equalIn d f.type a b).run P w = .ok (eqL ((xs.drop o).take k1.length) ((ys.drop o).take k1.length)) w := by
                  cases hsg : single P f.type with
                  | true =>
                    rw [hsg] at hc
                    have h1 : k1.length = 1 := Nat.eq_of_beq_eq_true hc
                    obtain ⟨x, rx, ex⟩ : ∃ x rx, xs.drop o = x :: rx := by
                      cases he : xs.drop o with
                      | nil => rw [he] at x1; have := fitsL_len x1; simp at this; omega
                      | cons x rx => exact ⟨x, rx, rfl⟩
                    obtain ⟨y, ry, ey⟩ : ∃ y ry, ys.drop o = y :: ry := by
                      cases he : ys.drop o with
                      | nil => rw [he] at y1; have := fitsL_len y1; simp at this; omega
                      | cons y ry => exact ⟨y, ry, rfl⟩
                    rw [ex, h1] at x1
                    rw [ey, h1] at y1
                    refine ⟨x, y, part_one hsg ex w, part_one hsg ey w, ?_⟩
                    rw [ex, ey, h1, g1 x y w hsg (by simpa using x1) (by simpa using y1)]
                    simp [eqL]
                  | false =>
                    rw [hsg] at hc
                    cases hag : aggN P f.type with
                    | none => rw [hag] at hc; simp at hc
                    | some n =>
                      rw [hag] at hc
                      have hn : n = k1.length := Nat.eq_of_beq_eq_true hc
                      subst hn
                      exact ⟨_, _, part_agg hag w, part_agg hag w, g2 _ _ w (by rw [hag]; rfl) x1 y1⟩
                obtain ⟨a, b, ha, hb, hab⟩ := hrec
                rw [ha]
                simp only [Result.andThen_ok, hb, hab]
                rw [eqL_split k1.length (l := xs.drop o) (m := ys.drop o) (by rw [List.length_drop, List.length_drop, hlen]), List.drop_drop, List.drop_drop]
                cases eqL ((xs.drop o).take k1.length) ((ys.drop o).take k1.length) with
                | true => simpa using ihh
                | false => simp
              · cases h
            · cases h
    · cases h
theorem eq_flat {P : Program} {t : TypeId} {ks : List Sh} {xs ys : List Value} (hk : eqK P 9 t = some ks) (ha : isSome? (aggN P t) = true) (hx : fitsL ks xs = true) (hy : fitsL ks ys = true) (w : World) :
    (binOp .eql t (.agg xs.toArray) (.agg ys.toArray)).run P w = .ok (.bool (eqL xs ys)) w := by
  rw [run_eql_struct, (run_eq_flat 9 10000 hk (by omega)).2 xs ys w ha hx hy]; rfl
theorem neq_flat {P : Program} {t : TypeId} {ks : List Sh} {xs ys : List Value} (hk : eqK P 9 t = some ks) (ha : isSome? (aggN P t) = true) (hx : fitsL ks xs = true) (hy : fitsL ks ys = true) (w : World) :
    (binOp .neq t (.agg xs.toArray) (.agg ys.toArray)).run P w = .ok (.bool (!eqL xs ys)) w := run_neq_of_eql (eq_flat hk ha hx hy w)
end Go.Bn
