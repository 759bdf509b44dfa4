/- The engine, part 2: what each operation does. -/
import Derived.Test.YtpkhilbgkkjebaaEng
import Derived.Test.YtpkhilbgkkjebaaRes
import Derived.WalkKit
namespace Go.Bn
open Go

section
variable {P : Program} {E : Env} {hp : Heap} {cl : Cls} {d : Option Tmp} {ty : TypeId} {pos : String} {af : Array Edge} {g : Option (Nat × Bool)}

theorem op_move {x : Operand} {v : Value} (hx : ev E x = some v) : Op1 cl P ⟨d, .move x, ty, pos, af, g⟩ E hp v :=
  .of_pure fun n a ho w' => by simp [execOp, ho.eval hx]
theorem op_assign {x : Operand} {v : Value} (hx : ev E x = some v) : Op1 cl P ⟨d, .assign x, ty, pos, af, g⟩ E hp v :=
  .of_pure fun n a ho w' => by simp [execOp, ho.eval hx]
theorem op_pick_t {c x y : Operand} {v : Value} (hc : ev E c = some (.bool true)) (hx : ev E x = some v) : Op1 cl P ⟨d, .pick c x y, ty, pos, af, g⟩ E hp v :=
  .of_pure fun n a ho w' => by simp [execOp, ho.eval hc, ho.eval hx, asBool]
theorem op_pick_f {c x y : Operand} {v : Value} (hc : ev E c = some (.bool false)) (hy : ev E y = some v) : Op1 cl P ⟨d, .pick c x y, ty, pos, af, g⟩ E hp v :=
  .of_pure fun n a ho w' => by simp [execOp, ho.eval hc, ho.eval hy, asBool]
theorem op_nilCheck {x : Operand} {ad : Addr} (hx : ev E x = some (.pointer (some ad))) : Op1 cl P ⟨d, .nilCheck x, ty, pos, af, g⟩ E hp (.pointer (some ad)) :=
  .of_pure fun n a ho w' => by simp [execOp, ho.eval hx]
theorem op_extract {x : Operand} {i : Nat} {vs : Array Value} {v : Value} (hx : ev E x = some (.tuple vs)) (hv : vs[i]? = some v) : Op1 cl P ⟨d, .extract x i, ty, pos, af, g⟩ E hp v :=
  .of_pure fun n a ho w' => by simp [execOp, ho.eval hx, Instr.extract, hv]

/-! Addresses. -/
def fieldOff (P : Program) (s : TypeId) (f : Nat) : Option Nat :=
  match P.underlying s with
  | some (.struct fs) => match fs[f]? with
    | some ⟨_, t, off, _, _, _, _⟩ => match P.info? t with
      | some i => match Nat.beq i.size 0 with | true => none | false => some off
      | none => none
    | none => none
  | _ => none
theorem addr_add (b o n : Nat) : (⟨b, o, none⟩ : Addr).add n = ⟨b, o + n, none⟩ := by unfold Addr.add; split <;> simp_all
theorem run_fieldAt {s f off : Nat} {ad : Addr} (hf : fieldOff P s f = some off) (w : World) : (Instr.fieldAt s (.pointer (some ad)) f).run P w = .ok (.pointer (some (ad.add off))) w := by
  unfold fieldOff at hf
  split at hf
  · rename_i fs hu
    split at hf
    · rename_i t off' hfs
      split at hf
      · rename_i i hi
        split at hf
        · cases hf
        · rename_i hb
          cases hf
          have : i.size ≠ 0 := Nat.ne_of_beq_eq_false hb
          simp [Instr.fieldAt, run_underlying hu, hfs, Instr.sureAddr, fieldPlace, sizeOf, typeInfo, hi, this]
      · cases hf
    · cases hf
  · cases hf
theorem op_field0 {x : Operand} {s f off b : Nat} (hx : ev E x = some (.pointer (some ⟨b, 0, none⟩))) (hf : fieldOff P s f = some off) : Op1 cl P ⟨d, .fieldAddr s x f, ty, pos, af, g⟩ E hp (.pointer (some ⟨b, off, none⟩)) :=
  .of_pure fun n a ho w' => by simp [execOp, ho.eval hx, run_fieldAt hf w', addr_add]
theorem op_fieldn {x : Operand} {s f off b o : Nat} (hx : ev E x = some (.pointer (some ⟨b, o, none⟩))) (hf : fieldOff P s f = some off) : Op1 cl P ⟨d, .fieldAddr s x f, ty, pos, af, g⟩ E hp (.pointer (some ⟨b, o + off, none⟩)) :=
  .of_pure fun n a ho w' => by simp [execOp, ho.eval hx, run_fieldAt hf w', addr_add]

/-- A slice's element type and how many cells that has. -/
def sliceEl (P : Program) (t : TypeId) : Option Nat :=
  match P.underlying t with
  | some (.slice e) => match P.info? e with
    | some { size := s, .. } => some s
    | none => none
  | _ => none
def arrayEl (P : Program) (t : TypeId) : Option (Nat × Nat) :=
  match P.underlying t with
  | some (.array n e) => match P.info? e with
    | some { size := s, .. } => some (n, s)
    | none => none
  | _ => none
theorem sliceEl_spec {P : Program} {t sz : Nat} (h : sliceEl P t = some sz) : ∃ e i, P.underlying t = some (.slice e) ∧ P.info? e = some i ∧ i.size = sz := by
  unfold sliceEl at h
  split at h
  · rename_i e hu
    split at h
    · rename_i hi; cases h; exact ⟨e, _, hu, hi, rfl⟩
    · cases h
  · cases h
theorem arrayEl_spec {P : Program} {t n sz : Nat} (h : arrayEl P t = some (n, sz)) : ∃ e i, P.underlying t = some (.array n e) ∧ P.info? e = some i ∧ i.size = sz := by
  unfold arrayEl at h
  split at h
  · rename_i e hu
    split at h
    · rename_i hi; cases h; exact ⟨_, _, hu, hi, rfl⟩
    · cases h
  · cases h
theorem op_index {x y : Operand} {t sz b o n c : Nat} {k : IntKind} {i : Nat} (hx : ev E x = some (.slice (some ⟨b, o, none⟩) n c)) (hy : ev E y = some (.int k (i : Int))) (ht : sliceEl P t = some sz) (hi : i < n) :
    Op1 cl P ⟨d, .indexAddr t x y, ty, pos, af, g⟩ E hp (.pointer (some ⟨b, o + i * sz, none⟩)) :=
  .of_pure fun _ a ho w' => by
    obtain ⟨e, ii, hu, hii, rfl⟩ := sliceEl_spec ht
    simp [execOp, ho.eval hx, ho.eval hy, Instr.indexAt, asIntOf, run_underlying hu, sizeOf, typeInfo, hii, addr_add, hi]
theorem op_index1 {x y : Operand} {t b o n c : Nat} {k : IntKind} {i : Nat} (hx : ev E x = some (.slice (some ⟨b, o, none⟩) n c)) (hy : ev E y = some (.int k (i : Int))) (ht : sliceEl P t = some 1) (hi : i < n) :
    Op1 cl P ⟨d, .indexAddr t x y, ty, pos, af, g⟩ E hp (.pointer (some ⟨b, o + i, none⟩)) := by
  have := op_index (cl := cl) (hp := hp) (d := d) (ty := ty) (pos := pos) (af := af) (g := g) hx hy ht hi
  rwa [Nat.mul_one] at this
theorem op_indexA {x y : Operand} {t sz b o len : Nat} {k : IntKind} {i : Nat} (hx : ev E x = some (.pointer (some ⟨b, o, none⟩))) (hy : ev E y = some (.int k (i : Int))) (ht : arrayEl P t = some (len, sz)) (hi : i < len) :
    Op1 cl P ⟨d, .indexAddr t x y, ty, pos, af, g⟩ E hp (.pointer (some ⟨b, o + i * sz, none⟩)) :=
  .of_pure fun _ a ho w' => by
    obtain ⟨e, ii, hu, hii, rfl⟩ := arrayEl_spec ht
    simp [execOp, ho.eval hx, ho.eval hy, Instr.indexAt, asIntOf, run_underlying hu, sizeOf, typeInfo, hii, addr_add, hi, Instr.sureAddr]
theorem op_indexA1 {x y : Operand} {t b len : Nat} {k : IntKind} {i : Nat} (hx : ev E x = some (.pointer (some ⟨b, 0, none⟩))) (hy : ev E y = some (.int k (i : Int))) (ht : arrayEl P t = some (len, 1)) (hi : i < len) :
    Op1 cl P ⟨d, .indexAddr t x y, ty, pos, af, g⟩ E hp (.pointer (some ⟨b, i, none⟩)) := by
  have := op_indexA (cl := cl) (hp := hp) (d := d) (ty := ty) (pos := pos) (af := af) (g := g) hx hy ht hi
  rwa [Nat.mul_one, Nat.zero_add] at this

/-! Loads. -/
def single (P : Program) (t : TypeId) : Bool :=
  match P.underlying t with
  | some (.struct _) => false
  | some (.array _ _) => false
  | some _ => match P.info? t with
    | some i => Nat.beq i.size 1
    | none => false
  | none => false
def aggN (P : Program) (t : TypeId) : Option Nat :=
  match P.underlying t with
  | some (.struct _) => match P.info? t with
    | some { size := s, .. } => some s
    | none => none
  | some (.array _ _) => match P.info? t with
    | some { size := s, .. } => some s
    | none => none
  | _ => none
theorem run_isAgg_single {t : TypeId} (h : single P t = true) (w : World) : (isAgg t).run P w = .ok false w := by
  unfold single at h
  split at h
  · cases h
  · cases h
  · rename_i dd hn1 hn2 hu
    unfold isAgg
    simp only [Sem.run_bind, run_underlying hu, Result.andThen_ok]
    cases dd <;> first | rfl | (exfalso; first | exact hn1 _ hu | exact hn2 _ _ hu | simp_all)
  · cases h
theorem run_sizeOf_single {t : TypeId} (h : single P t = true) (w : World) : (sizeOf t).run P w = .ok 1 w := by
  unfold single at h
  split at h
  · cases h
  · cases h
  · split at h
    · rename_i i hi
      have := Nat.eq_of_beq_eq_true h
      simp [sizeOf, typeInfo, hi, this]
    · cases h
  · cases h
theorem run_load_cell {m : Mode} {a : Addr} {v : Value} {w : World} (h : cellH w.heap a = some v) : (Go.load a m).run P w = .ok v w := by
  have : w.cell? a = some v := h
  simp [Go.load, Sem.run, this]
theorem run_loadVar_single {t : TypeId} {a : Addr} {v : Value} {w : World} (ht : single P t = true) (h : cellH w.heap a = some v) : (loadVar t a).run P w = .ok v w := by
  unfold loadVar
  simp only [Sem.run_bind, run_isAgg_single ht, Result.andThen_ok, Bool.false_eq_true, if_false]
  exact run_load_cell h
theorem op_load {x : Operand} {t : TypeId} {ad : Addr} {v : Value} (hx : ev E x = some (.pointer (some ad))) (ht : single P t = true) (hc : cellH hp ad = some v) : Op1 .load P ⟨d, .load t x, ty, pos, af, g⟩ E hp v :=
  fun n a ho w' hx' => by simp [execOp, ho.eval hx, Instr.loadAt, Instr.sureAddr, run_loadVar_single ht (cellH_ext hx' hc)]
theorem op_load_w {x : Operand} {t : TypeId} {ad : Addr} {v : Value} (hx : ev E x = some (.pointer (some ad))) (ht : single P t = true) (hc : cellH hp ad = some v) : Op1 .wild P ⟨d, .load t x, ty, pos, af, g⟩ E hp v :=
  fun n a ho w' hx' => by simp [execOp, ho.eval hx, Instr.loadAt, Instr.sureAddr, run_loadVar_single ht (cellH_ext hx' hc)]
theorem run_loadCellsFrom {b o : Nat} {w : World} : ∀ (n i : Nat) (vs : List Value) (acc : Array Value), vs.length = n → (∀ j u, vs[j]? = some u → cellH w.heap ⟨b, o + (i + j), none⟩ = some u) →
    (loadCellsFrom ⟨b, o, none⟩ i n acc).run P w = .ok (acc ++ vs.toArray) w
  | 0, i, vs, acc, hl, _ => by
    obtain rfl : vs = [] := List.eq_nil_of_length_eq_zero hl
    simp [loadCellsFrom]
  | n + 1, i, [], acc, hl, _ => by simp at hl
  | n + 1, i, v :: vs, acc, hl, hc => by
    have h0 := hc 0 v rfl
    simp only [Nat.add_zero] at h0
    unfold loadCellsFrom
    simp only [Sem.run_bind, addr_add, run_load_cell h0, Result.andThen_ok]
    rw [run_loadCellsFrom n (i + 1) vs (acc.push v) (by simpa using hl) (fun j u hu => by
      have := hc (j + 1) u (by simpa using hu)
      rw [show i + 1 + j = i + (j + 1) by omega]; exact this)]
    simp
theorem run_loadVar_agg {t b o n : Nat} {vs : List Value} {w : World} (ht : aggN P t = some n) (hl : vs.length = n) (hc : ∀ j u, vs[j]? = some u → cellH w.heap ⟨b, o + j, none⟩ = some u) :
    (loadVar t ⟨b, o, none⟩).run P w = .ok (.agg vs.toArray) w := by
  have hrow := run_loadCellsFrom (P := P) (w := w) (b := b) (o := o) n 0 vs #[] hl (by simpa using hc)
  unfold aggN at ht
  have key : ∀ dd i, P.underlying t = some dd → P.info? t = some i → i.size = n → (match dd with | .struct _ | .array _ _ => true | _ => false) = true → (loadVar t ⟨b, o, none⟩).run P w = .ok (.agg vs.toArray) w := by
    intro dd i hu hi hs hd
    have hagg : (isAgg t).run P w = .ok true w := by
      unfold isAgg
      simp only [Sem.run_bind, run_underlying hu, Result.andThen_ok]
      cases dd <;> first | rfl | cases hd
    unfold loadVar
    simp only [Sem.run_bind, hagg, Result.andThen_ok, if_true, sizeOf, typeInfo]
    simp [hi, hs, loadCells, hrow]
  split at ht
  · rename_i fs hu
    split at ht
    · rename_i hi; cases ht; exact key _ _ hu hi rfl rfl
    · cases ht
  · rename_i n' e hu
    split at ht
    · rename_i hi; cases ht; exact key _ _ hu hi rfl rfl
    · cases ht
  · cases ht
theorem op_loadA {x : Operand} {t b o n : Nat} {vs : List Value} (hx : ev E x = some (.pointer (some ⟨b, o, none⟩))) (ht : aggN P t = some n) (hl : vs.length = n) (hc : ∀ j u, vs[j]? = some u → cellH hp ⟨b, o + j, none⟩ = some u) :
    Op1 .load P ⟨d, .load t x, ty, pos, af, g⟩ E hp (.agg vs.toArray) :=
  fun n a ho w' hx' => by simp [execOp, ho.eval hx, Instr.loadAt, Instr.sureAddr, run_loadVar_agg ht hl (fun j u hu => cellH_ext hx' (hc j u hu))]
theorem op_loadA_w {x : Operand} {t b o n : Nat} {vs : List Value} (hx : ev E x = some (.pointer (some ⟨b, o, none⟩))) (ht : aggN P t = some n) (hl : vs.length = n) (hc : ∀ j u, vs[j]? = some u → cellH hp ⟨b, o + j, none⟩ = some u) :
    Op1 .wild P ⟨d, .load t x, ty, pos, af, g⟩ E hp (.agg vs.toArray) :=
  fun n a ho w' hx' => by simp [execOp, ho.eval hx, Instr.loadAt, Instr.sureAddr, run_loadVar_agg ht hl (fun j u hu => cellH_ext hx' (hc j u hu))]

/-! Whole numbers. -/
section
variable {x y : Operand} {t t' : TypeId} {k : IntKind} {a b : Int}
theorem op_add (hx : ev E x = some (.int k a)) (hy : ev E y = some (.int k b)) : Op1 cl P ⟨d, .binOp .add t x y t', ty, pos, af, g⟩ E hp (.int k (k.wrap (a + b))) :=
  .of_pure fun n a ho w' => by simp [execOp, ho.eval hx, ho.eval hy, eqGuard, binOp, Op.intArith]
theorem op_sub (hx : ev E x = some (.int k a)) (hy : ev E y = some (.int k b)) : Op1 cl P ⟨d, .binOp .sub t x y t', ty, pos, af, g⟩ E hp (.int k (k.wrap (a - b))) :=
  .of_pure fun n a ho w' => by simp [execOp, ho.eval hx, ho.eval hy, eqGuard, binOp, Op.intArith]
theorem op_mul (hx : ev E x = some (.int k a)) (hy : ev E y = some (.int k b)) : Op1 cl P ⟨d, .binOp .mul t x y t', ty, pos, af, g⟩ E hp (.int k (k.wrap (a * b))) :=
  .of_pure fun n a ho w' => by simp [execOp, ho.eval hx, ho.eval hy, eqGuard, binOp, Op.intArith]
theorem op_quo (hx : ev E x = some (.int k a)) (hy : ev E y = some (.int k b)) (hb : b ≠ 0) : Op1 cl P ⟨d, .binOp .quo t x y t', ty, pos, af, g⟩ E hp (.int k (k.wrap (a.tdiv b))) :=
  .of_pure fun n a ho w' => by simp [execOp, ho.eval hx, ho.eval hy, eqGuard, binOp, Op.intDiv, hb]
theorem op_rem (hx : ev E x = some (.int k a)) (hy : ev E y = some (.int k b)) (hb : b ≠ 0) : Op1 cl P ⟨d, .binOp .rem t x y t', ty, pos, af, g⟩ E hp (.int k (a.tmod b)) :=
  .of_pure fun n a ho w' => by simp [execOp, ho.eval hx, ho.eval hy, eqGuard, binOp, Op.intDiv, hb]
/-- The bits of two numbers, joined. -/
def bitsOp (op : BinOp) (k : IntKind) (a b : Int) : Int :=
  let x := BitVec.ofInt k.bits a
  let y := BitVec.ofInt k.bits b
  match op with
  | .and => k.wrap (x &&& y).toNat
  | .or => k.wrap (x ||| y).toNat
  | .xor => k.wrap (x ^^^ y).toNat
  | _ => k.wrap (x &&& ~~~y).toNat
theorem op_and (hx : ev E x = some (.int k a)) (hy : ev E y = some (.int k b)) : Op1 cl P ⟨d, .binOp .and t x y t', ty, pos, af, g⟩ E hp (.int k (bitsOp .and k a b)) :=
  .of_pure fun n a ho w' => by simp [execOp, ho.eval hx, ho.eval hy, eqGuard, binOp, Op.intBits, bitsOp]
theorem op_or (hx : ev E x = some (.int k a)) (hy : ev E y = some (.int k b)) : Op1 cl P ⟨d, .binOp .or t x y t', ty, pos, af, g⟩ E hp (.int k (bitsOp .or k a b)) :=
  .of_pure fun n a ho w' => by simp [execOp, ho.eval hx, ho.eval hy, eqGuard, binOp, Op.intBits, bitsOp]
theorem op_xor (hx : ev E x = some (.int k a)) (hy : ev E y = some (.int k b)) : Op1 cl P ⟨d, .binOp .xor t x y t', ty, pos, af, g⟩ E hp (.int k (bitsOp .xor k a b)) :=
  .of_pure fun n a ho w' => by simp [execOp, ho.eval hx, ho.eval hy, eqGuard, binOp, Op.intBits, bitsOp]
theorem op_shl {k' : IntKind} (hx : ev E x = some (.int k a)) (hy : ev E y = some (.int k' b)) (hb : 0 ≤ b) : Op1 cl P ⟨d, .binOp .shl t x y t', ty, pos, af, g⟩ E hp (.int k (k.wrap (a * 2 ^ (min b.toNat k.bits)))) :=
  .of_pure fun n a ho w' => by simp [execOp, ho.eval hx, ho.eval hy, eqGuard, binOp, Op.shift, Int.not_lt.mpr hb]
theorem op_shr {k' : IntKind} (hx : ev E x = some (.int k a)) (hy : ev E y = some (.int k' b)) (hb : 0 ≤ b) : Op1 cl P ⟨d, .binOp .shr t x y t', ty, pos, af, g⟩ E hp (.int k (a.fdiv (2 ^ (min b.toNat k.bits)))) :=
  .of_pure fun n a ho w' => by simp [execOp, ho.eval hx, ho.eval hy, eqGuard, binOp, Op.shift, Int.not_lt.mpr hb]
theorem op_eql (hx : ev E x = some (.int k a)) (hy : ev E y = some (.int k b)) : Op1 cl P ⟨d, .binOp .eql t x y t', ty, pos, af, g⟩ E hp (.bool (decide (a = b))) :=
  .of_pure fun n a ho w' => by simp [execOp, ho.eval hx, ho.eval hy, eqGuard, binOp, Op.intCmp]; rfl
theorem op_neq (hx : ev E x = some (.int k a)) (hy : ev E y = some (.int k b)) : Op1 cl P ⟨d, .binOp .neq t x y t', ty, pos, af, g⟩ E hp (.bool (decide (a ≠ b))) :=
  .of_pure fun n a ho w' => by simp [execOp, ho.eval hx, ho.eval hy, eqGuard, binOp, Op.intCmp]; rfl
theorem op_lss (hx : ev E x = some (.int k a)) (hy : ev E y = some (.int k b)) : Op1 cl P ⟨d, .binOp .lss t x y t', ty, pos, af, g⟩ E hp (.bool (decide (a < b))) :=
  .of_pure fun n a ho w' => by simp [execOp, ho.eval hx, ho.eval hy, eqGuard, binOp, Op.intCmp]
theorem op_leq (hx : ev E x = some (.int k a)) (hy : ev E y = some (.int k b)) : Op1 cl P ⟨d, .binOp .leq t x y t', ty, pos, af, g⟩ E hp (.bool (decide (a ≤ b))) :=
  .of_pure fun n a ho w' => by simp [execOp, ho.eval hx, ho.eval hy, eqGuard, binOp, Op.intCmp]
theorem op_gtr (hx : ev E x = some (.int k a)) (hy : ev E y = some (.int k b)) : Op1 cl P ⟨d, .binOp .gtr t x y t', ty, pos, af, g⟩ E hp (.bool (decide (b < a))) :=
  .of_pure fun n a ho w' => by simp [execOp, ho.eval hx, ho.eval hy, eqGuard, binOp, Op.intCmp]
theorem op_geq (hx : ev E x = some (.int k a)) (hy : ev E y = some (.int k b)) : Op1 cl P ⟨d, .binOp .geq t x y t', ty, pos, af, g⟩ E hp (.bool (decide (b ≤ a))) :=
  .of_pure fun n a ho w' => by simp [execOp, ho.eval hx, ho.eval hy, eqGuard, binOp, Op.intCmp]
theorem min2_int (a b : Int) : Builtin.min2 (.int k a) (.int k b) = pure (.int k (min a b)) := by
  simp only [Builtin.min2, Int.min_def]
  congr 2
  split <;> split <;> omega
theorem max2_int (a b : Int) : Builtin.max2 (.int k a) (.int k b) = pure (.int k (max a b)) := by
  simp only [Builtin.max2, Int.max_def]
  congr 2
  split <;> split <;> omega
theorem op_min2 (hx : ev E x = some (.int k a)) (hy : ev E y = some (.int k b)) {ts : Array TypeId} : Op1 cl P ⟨d, .call ⟨.builtin .min, #[x, y], ts⟩, ty, pos, af, g⟩ E hp (.int k (min a b)) :=
  .of_pure fun n a' ho w' => by
    simp [execOp, resolve, ho.eval hx, ho.eval hy, invoke, builtin, Builtin.min_, min2_int]
theorem op_max2 (hx : ev E x = some (.int k a)) (hy : ev E y = some (.int k b)) {ts : Array TypeId} : Op1 cl P ⟨d, .call ⟨.builtin .max, #[x, y], ts⟩, ty, pos, af, g⟩ E hp (.int k (max a b)) :=
  .of_pure fun n a' ho w' => by
    simp [execOp, resolve, ho.eval hx, ho.eval hy, invoke, builtin, Builtin.max_, max2_int]
end
end
end Go.Bn
