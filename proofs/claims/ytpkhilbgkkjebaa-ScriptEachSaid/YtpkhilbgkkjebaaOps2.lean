/- The engine, part 3: bools, strings, pointers against nil, conversions, stores, new blocks, slices, append, copy, calls. -/
import Derived.Test.YtpkhilbgkkjebaaOps1
namespace Go.Bn
open Go

/-- A byte as a value; a string of bytes. -/
def byteV (b : UInt8) : Value := .int .u8 (b.toNat : Int)
def str (l : List UInt8) : ByteArray := ⟨l.toArray⟩
theorem str_size (l : List UInt8) : (str l).size = l.length := by simp [str, ByteArray.size]
theorem str_data (l : List UInt8) : (str l).data = l.toArray := rfl
theorem str_toList (l : List UInt8) : (str l).toList = l := by
  have h : ∀ (b : ByteArray), b.toList = b.data.toList := fun b => by
    have key : ∀ (n i : Nat) (acc : List UInt8), b.size - i = n → ByteArray.toList.loop b i acc = acc.reverse ++ b.data.toList.drop i := by
      intro n
      induction n with
      | zero =>
        intro i acc hn
        unfold ByteArray.toList.loop
        have hlen : b.data.toList.length = b.size := by rw [Array.length_toList]; rfl
        rw [if_neg (by omega), List.drop_eq_nil_of_le (by omega)]; simp
      | succ n ih =>
        intro i acc hn
        have hi : i < b.size := by omega
        have hlen : b.data.toList.length = b.size := by rw [Array.length_toList]; rfl
        unfold ByteArray.toList.loop
        rw [if_pos hi, ih (i + 1) _ (by omega)]
        rw [List.drop_eq_getElem_cons (show i < b.data.toList.length by omega)]
        simp only [List.reverse_cons, List.append_assoc, List.singleton_append]
        congr 2
        rw [Array.getElem_toList]
        have hg : b.get! i = b.data[i]! := rfl
        rw [hg]
        exact getElem!_pos b.data i hi
    have := key b.size 0 [] rfl
    simpa [ByteArray.toList] using this
  rw [h]; simp [str]
theorem str_inj {l m : List UInt8} : str l = str m ↔ l = m := ⟨fun h => by rw [← str_toList l, h, str_toList], fun h => by rw [h]⟩
theorem str_append (l m : List UInt8) : str l ++ str m = str (l ++ m) := by
  apply ByteArray.ext
  simp [str, ByteArray.data_append]

section
variable {P : Program} {E : Env} {hp : Heap} {cl : Cls} {d : Option Tmp} {ty : TypeId} {pos : String} {af : Array Edge} {g : Option (Nat × Bool)}
variable {x y : Operand} {t t' : TypeId}

theorem op_not {b : Bool} (hx : ev E x = some (.bool b)) : Op1 cl P ⟨d, .unOp .not t x, ty, pos, af, g⟩ E hp (.bool (!b)) :=
  .of_pure fun n a ho w' => by simp [execOp, ho.eval hx, Op.unary]
theorem op_notd {p : Prop} [Decidable p] (hx : ev E x = some (.bool (decide p))) : Op1 cl P ⟨d, .unOp .not t x, ty, pos, af, g⟩ E hp (.bool (decide ¬ p)) :=
  .of_pure fun n a ho w' => by simp [execOp, ho.eval hx, Op.unary]
theorem op_neg {k : IntKind} {a : Int} (hx : ev E x = some (.int k a)) : Op1 cl P ⟨d, .unOp .neg t x, ty, pos, af, g⟩ E hp (.int k (k.wrap (-a))) :=
  .of_pure fun n a ho w' => by simp [execOp, ho.eval hx, Op.unary, Op.intArith]
theorem op_com {k : IntKind} {a : Int} (hx : ev E x = some (.int k a)) : Op1 cl P ⟨d, .unOp .xor t x, ty, pos, af, g⟩ E hp (.int k (bitsOp .xor k (if k.signed then -1 else k.max) a)) :=
  .of_pure fun n a ho w' => by simp [execOp, ho.eval hx, Op.unary, Op.intBits, bitsOp]
theorem op_eqlB {a b : Bool} (hx : ev E x = some (.bool a)) (hy : ev E y = some (.bool b)) (hu : P.underlying t = some .bool) : Op1 cl P ⟨d, .binOp .eql t x y t', ty, pos, af, g⟩ E hp (.bool (decide (a = b))) :=
  .of_pure fun n a' ho w' => by
    simp only [execOp, ho.eval hx, ho.eval hy, eqGuard]
    simp [run_eql_bool w' t a b hu]; cases a <;> cases b <;> rfl
theorem op_neqB {a b : Bool} (hx : ev E x = some (.bool a)) (hy : ev E y = some (.bool b)) (hu : P.underlying t = some .bool) : Op1 cl P ⟨d, .binOp .neq t x y t', ty, pos, af, g⟩ E hp (.bool (decide (a ≠ b))) :=
  .of_pure fun n a' ho w' => by
    simp only [execOp, ho.eval hx, ho.eval hy, eqGuard]
    simp [run_neq_bool w' t a b hu]; cases a <;> cases b <;> rfl
theorem beq_dec (a b : List UInt8) : (a == b) = decide (a = b) := by rw [Bool.eq_iff_iff]; simp
theorem op_eqlS {a b : List UInt8} (hx : ev E x = some (.string (str a))) (hy : ev E y = some (.string (str b))) : Op1 cl P ⟨d, .binOp .eql t x y t', ty, pos, af, g⟩ E hp (.bool (decide (a = b))) :=
  .of_pure fun n a' ho w' => by simp [execOp, ho.eval hx, ho.eval hy, eqGuard, binOp, Op.stringOp, str_toList, beq_dec]
theorem op_neqS {a b : List UInt8} (hx : ev E x = some (.string (str a))) (hy : ev E y = some (.string (str b))) : Op1 cl P ⟨d, .binOp .neq t x y t', ty, pos, af, g⟩ E hp (.bool (decide (a ≠ b))) :=
  .of_pure fun n a' ho w' => by simp [execOp, ho.eval hx, ho.eval hy, eqGuard, binOp, Op.stringOp, str_toList, beq_dec]
theorem op_addS {a b : List UInt8} (hx : ev E x = some (.string (str a))) (hy : ev E y = some (.string (str b))) (hl : a.length + b.length ≤ 9223372036854775807) : Op1 cl P ⟨d, .binOp .add t x y t', ty, pos, af, g⟩ E hp (.string (str (a ++ b))) :=
  .of_pure fun n a' ho w' => by
    have h1 : ¬ (((str a).size + (str b).size : Nat) : Int) > IntKind.i64.max := by
      rw [str_size, str_size, show IntKind.i64.max = 9223372036854775807 from rfl]; omega
    simp only [execOp, ho.eval hx, ho.eval hy, eqGuard, binOp, Op.stringOp]
    rw [if_neg h1]
    simp [str_append]
theorem pointee_of {e : TypeId} (hu : P.underlying t = some (.pointer e)) : P.underlying t = some (.pointer (P.pointee t)) := by
  rw [hu]; simp [Program.pointee, hu]
/-- A pointer against nil. -/
theorem op_ptr_nil {p : Option Addr} {e : TypeId} (hx : ev E x = some (.pointer p)) (hy : ev E y = some (.pointer none)) (hu : P.underlying t = some (.pointer e)) : Op1 cl P ⟨d, .binOp .eql t x y t', ty, pos, af, g⟩ E hp (.bool p.isNone) :=
  .of_pure fun n a' ho w' => by
    simp only [execOp, ho.eval hx, ho.eval hy, eqGuard]
    simp [run_eql_pointer_nil w' t p (pointee_of hu)]
theorem op_ptr_nnil {p : Option Addr} {e : TypeId} (hx : ev E x = some (.pointer p)) (hy : ev E y = some (.pointer none)) (hu : P.underlying t = some (.pointer e)) : Op1 cl P ⟨d, .binOp .neq t x y t', ty, pos, af, g⟩ E hp (.bool (!p.isNone)) :=
  .of_pure fun n a' ho w' => by
    simp only [execOp, ho.eval hx, ho.eval hy, eqGuard]
    simp [run_neq_pointer_nil w' t p (pointee_of hu)]

/-! Conversions. -/
def convI (P : Program) (src dst : TypeId) : Option IntKind :=
  match P.underlying src, P.underlying dst with
  | some _, some (.int k) => some k
  | _, _ => none
theorem op_conv {k k' : IntKind} {a : Int} (hx : ev E x = some (.int k a)) (hc : convI P t t' = some k') : Op1 cl P ⟨d, .convert t t' x, ty, pos, af, g⟩ E hp (.int k' (k'.wrap a)) :=
  .of_pure fun n a ho w' => by
    unfold convI at hc
    split at hc
    · rename_i h1 h2
      cases hc
      simp [execOp, ho.eval hx, convert, run_underlying h1, run_underlying h2, Conv.intToInt]
    · cases hc

/-! Lengths. -/
def isSliceT (P : Program) (t : TypeId) : Bool := match P.underlying t with | some (.slice _) => true | _ => false
def isStrT (P : Program) (t : TypeId) : Bool := match P.underlying t with | some .string => true | _ => false
theorem op_len {A : Option Addr} {n c : Nat} (hx : ev E x = some (.slice A n c)) (ht : isSliceT P t = true) {ts : Array TypeId} (hts : ts = #[t]) : Op1 cl P ⟨d, .call ⟨.builtin .len, #[x], ts⟩, ty, pos, af, g⟩ E hp (.int .i64 (n : Int)) :=
  .of_pure fun n a ho w' => by
    subst hts
    unfold isSliceT at ht
    split at ht
    · rename_i h; simp [execOp, resolve, ho.eval hx, invoke, builtin, Builtin.len_, run_underlying h, goInt]
    · cases ht
theorem op_lenS {s : List UInt8} (hx : ev E x = some (.string (str s))) (ht : isStrT P t = true) {ts : Array TypeId} (hts : ts = #[t]) : Op1 cl P ⟨d, .call ⟨.builtin .len, #[x], ts⟩, ty, pos, af, g⟩ E hp (.int .i64 (s.length : Int)) :=
  .of_pure fun n a ho w' => by
    subst hts
    unfold isStrT at ht
    split at ht
    · rename_i h; simp [execOp, resolve, ho.eval hx, invoke, builtin, Builtin.len_, run_underlying h, goInt, str_size]
    · cases ht

/-! Stores. -/
def Value.one : Value → Bool
  | .agg _ => false
  | .tuple _ => false
  | _ => true
theorem run_store_cell {m : Mode} {a : Addr} {v u : Value} {w : World} (h1 : Value.one v = true) (h : cellH w.heap a = some u) (hf : frozenH w.heap a = false) : (Go.store a v m).run P w = .ok () (w.setCell a v) := by
  have h' : w.cell? a = some u := h
  have hf' : w.frozen? a = false := hf
  cases v <;> first | (cases h1; done) | simp [Go.store, Sem.run, h', hf']
theorem Value.one_cells {v : Value} (h : Value.one v = true) : v.cells = #[v] := by cases v <;> first | rfl | (cases h; done)
theorem addr_zero (a : Addr) : a.add 0 = a := by simp [Addr.add]
theorem opl_store {ad : Addr} {v u : Value} (hx : ev E x = some (.pointer (some ad))) (hy : ev E y = some v) (ht : single P t = true) (h1 : Value.one v = true) (hc : cellH hp ad = some u) (hf : frozenH hp ad = false) :
    OpL P ⟨d, .store t x y, ty, pos, af, g⟩ E hp (fun r hp' => r = undef ∧ hp' = setH hp ad v) := by
  intro n a w ho hw K hK
  subst hw
  have hrun : (execOp a.eval ⟨d, .store t x y, ty, pos, af, g⟩).run P w = .ok .skip (w.setCell ad v) := by
    simp [execOp, ho.eval hx, ho.eval hy, Instr.storeAt, Instr.sureAddr, storeVar, Value.one_cells h1, run_sizeOf_single ht, storeCells, addr_zero, run_store_cell h1 hc hf]
  simp only [Oper.wp, hrun, Oper.upon]
  exact hK _ _ ⟨rfl, rfl, rfl⟩ ⟨rfl, rfl⟩

/-- Several cells one behind the other. -/
def setCs (hp : Heap) (p o : Nat) : List Value → Heap
  | [] => hp
  | v :: r => setCs (setH hp ⟨p, o, none⟩ v) p (o + 1) r
theorem run_storeCells {p o : Nat} {e : TypeId} {fr : Nat × Nat} : ∀ (vs : List Value) (i : Nat) (cur : Array Value) (w : World), (∀ v ∈ vs, Value.one v = true) → w.heap[p]? = some (.cells cur e fr) → o + i + vs.length ≤ cur.size → unfrozen cur.size fr →
    ∃ w', (storeCells ⟨p, o, none⟩ vs i).run P w = .ok () w' ∧ Inv w w' ∧ w'.heap.size = w.heap.size ∧ (∀ k, k ≠ p → w'.heap[k]? = w.heap[k]?) ∧
      w'.heap[p]? = some (.cells (cur.toList.take (o + i) ++ vs ++ cur.toList.drop (o + i + vs.length)).toArray e fr)
  | [], i, cur, w, _, hg, hl, hu => ⟨w, by simp [storeCells], Inv.refl w, rfl, fun _ _ => rfl, by simpa using hg⟩
  | v :: vs, i, cur, w, h1, hg, hl, hu => by
    have hv := h1 v List.mem_cons_self
    have hlt : o + i < cur.size := by simp at hl; omega
    have hc : cellH w.heap ⟨p, o + i, none⟩ = some cur[o + i] := by simp [cellH, hg, hlt]
    have hf : frozenH w.heap ⟨p, o + i, none⟩ = false := by
      have := hu.free (o + i) hlt
      simp only [frozenH, hg]
      simpa using this
    have hg' : (w.setCell ⟨p, o + i, none⟩ v).heap[p]? = some (.cells (cur.setIfInBounds (o + i) v) e fr) := setH_same v hg
    obtain ⟨w', hr, hi, hs, ho, hp'⟩ := run_storeCells (o := o) vs (i + 1) (cur.setIfInBounds (o + i) v) (w.setCell ⟨p, o + i, none⟩ v) (fun u hu => h1 u (List.mem_cons_of_mem _ hu)) hg' (by rw [Array.size_setIfInBounds]; simp at hl; omega) (by simpa using hu)
    refine ⟨w', ?_, ⟨hi.os, hi.tape, hi.output⟩, ?_, ?_, ?_⟩
    · unfold storeCells
      simp only [Sem.run_bind, addr_add, run_store_cell hv hc hf, Result.andThen_ok]
      exact hr
    · rw [hs]; exact setH_size _ _ _
    · intro k hk
      rw [ho k hk]
      exact setH_other _ _ _ _ hk
    · rw [hp']
      congr 3
      apply List.ext_getElem?
      intro j
      simp only [Array.toList_setIfInBounds, List.length_cons]
      rw [show o + (i + 1) = o + i + 1 by omega, show o + i + 1 + vs.length = o + i + (vs.length + 1) by omega]
      have e1 : (cur.toList.set (o + i) v).take (o + i + 1) = cur.toList.take (o + i) ++ [v] := by
        rw [List.take_succ_eq_append_getElem (by simpa using hlt)]
        rw [List.take_set, List.set_eq_of_length_le (by simp; omega)]; simp
      have e2 : (cur.toList.set (o + i) v).drop (o + i + (vs.length + 1)) = cur.toList.drop (o + i + (vs.length + 1)) := by
        rw [List.drop_set]; rw [if_pos (by omega)]
      rw [e1, e2]
      simp

/-! Slices: where they may be read. -/

/-- A conversion of bytes to a string. -/
def isBytesT (P : Program) (t : TypeId) : Bool :=
  match P.underlying t with
  | some (.slice e) => match P.underlying e with
    | some (.int .u8) => true
    | _ => false
  | _ => false
theorem run_bytesToString {A : Option Addr} {n c : Nat} {l : List UInt8} {w : World} (hl : l.length = n) (hr : Rd w.heap A (l.map byteV)) : (Conv.bytesToString (.slice A n c)).run P w = .ok (.string (str l)) w := by
  have hfor : ∀ (f : Value → ByteArray → Sem (ForInStep ByteArray)), (∀ b s, f (byteV b) s = pure (.yield (s.push b))) → ∀ (l : List UInt8) (s : ByteArray) (w : World),
      (forIn (m := Sem) (l.map byteV).toArray s f).run P w = .ok (s ++ str l) w := by
    intro f hf l
    induction l with
    | nil => intro s w; simp [str]; exact ByteArray.ext (by simp)
    | cons b l ih =>
      intro s w
      have := ih (s.push b) w
      simp only [List.map_cons, List.forIn_toArray, List.forIn_cons] at this ⊢
      simp only [hf, Sem.run_bind, Sem.run_pure, Result.andThen_ok]
      rw [this]
      congr 1
      apply ByteArray.ext
      simp [str, ByteArray.data_append, ByteArray.data_push]
  cases A with
  | none =>
    have : l = [] := by
      rcases hr with h | ⟨b, o, h, _⟩
      · simpa using h
      · cases h
    subst this
    simp [Conv.bytesToString, str]; rfl
  | some a =>
    by_cases hn : l = []
    · subst hn
      simp at hl; subst hl
      simp [Conv.bytesToString, loadCells, loadCellsFrom, str]; rfl
    · rcases hr with h | ⟨b, o, h, hc⟩
      · exact absurd (by simpa using h) hn
      · cases h
        have hrow := run_loadCellsFrom (P := P) (w := w) (b := b) (o := o) n 0 (l.map byteV) #[] (by simpa using hl) (by simpa using hc)
        simp only [Conv.bytesToString, loadCells, Sem.run_bind, hrow, Result.andThen_ok, Array.empty_append]
        rw [hfor _ (by intro b s; simp [byteV]) l .empty w]
        simp
theorem op_toStr {A : Option Addr} {n c : Nat} {l : List UInt8} (hx : ev E x = some (.slice A n c)) (ht : isBytesT P t = true) (ht' : isStrT P t' = true) (hl : l.length = n) (hr : Rd hp A (l.map byteV)) :
    Op1 .load P ⟨d, .convert t t' x, ty, pos, af, g⟩ E hp (.string (str l)) := by
  intro m a ho w' hx'
  unfold isBytesT at ht
  split at ht
  · rename_i e hu
    split at ht
    · rename_i hue
      unfold isStrT at ht'
      split at ht'
      · rename_i hu'
        have := run_bytesToString (P := P) (c := c) hl (hr.ext hx')
        simp [execOp, ho.eval hx, convert, run_underlying hu, run_underlying hue, run_underlying hu', this]
      · cases ht'
    · cases ht
  · cases ht
theorem op_toStr_w {A : Option Addr} {n c : Nat} {l : List UInt8} (hx : ev E x = some (.slice A n c)) (ht : isBytesT P t = true) (ht' : isStrT P t' = true) (hl : l.length = n) (hr : Rd hp A (l.map byteV)) :
    Op1 .wild P ⟨d, .convert t t' x, ty, pos, af, g⟩ E hp (.string (str l)) := fun m a ho => op_toStr hx ht ht' hl hr m a ho

/-! New blocks. -/
theorem ext_push (hp : Heap) (o : Obj) : Ext hp (hp.push o) := ⟨by simp, fun k hk => by rw [Array.getElem?_push, if_neg (by omega)]⟩
theorem push_at (hp : Heap) (o : Obj) : (hp.push o)[hp.size]? = some o := by simp
/-- A variable's cells at its zero value. -/
def zeroC (P : Program) (t : TypeId) : Option (List Value) :=
  match P.info? t with
  | some { zero := some z, .. } => some z.cells.toList
  | _ => none
theorem run_zeroValue {t : TypeId} {zs : List Value} (h : zeroC P t = some zs) (w : World) : ∃ z, (zeroValue t).run P w = .ok z w ∧ z.cells = zs.toArray := by
  unfold zeroC at h
  split at h
  · rename_i z _ _ hi
    cases h
    exact ⟨z, by simp [zeroValue, typeInfo, hi], by simp⟩
  · cases h
theorem run_newRow (e : TypeId) (cs : Array Value) (w : World) : (newRow e cs).run P w = .ok ⟨w.heap.size, 0, none⟩ (w.alloc (.cells cs e)) := rfl
theorem opl_alloc {zs : List Value} (hz : zeroC P t = some zs) : OpL P ⟨d, .alloc t, ty, pos, af, g⟩ E hp (fun v hp' => v = .pointer (some ⟨hp.size, 0, none⟩) ∧ hp' = hp.push (.cells zs.toArray t)) := by
  intro n a w ho hw K hK
  subst hw
  obtain ⟨z, hr, hc⟩ := run_zeroValue hz w
  have hrun : (execOp a.eval ⟨d, .alloc t, ty, pos, af, g⟩).run P w = .ok (.value (.pointer (some ⟨w.heap.size, 0, none⟩))) (w.alloc (.cells zs.toArray t)) := by
    simp [execOp, Instr.alloc, hr, newVar, run_newRow, hc]
  simp only [Oper.wp, hrun, Oper.upon]
  exact hK _ _ ⟨rfl, rfl, rfl⟩ ⟨rfl, rfl⟩
theorem opl_box {v : Value} {cs : List Value} (hx : ev E x = some v) (hc : v.cells = cs.toArray) : OpL P ⟨d, .box t x, ty, pos, af, g⟩ E hp (fun u hp' => u = .pointer (some ⟨hp.size, 0, none⟩) ∧ hp' = hp.push (.cells cs.toArray t)) := by
  intro n a w ho hw K hK
  subst hw
  have hrun : (execOp a.eval ⟨d, .box t x, ty, pos, af, g⟩).run P w = .ok (.value (.pointer (some ⟨w.heap.size, 0, none⟩))) (w.alloc (.cells cs.toArray t)) := by
    simp [execOp, ho.eval hx, Instr.box, newVar, run_newRow, hc]
  simp only [Oper.wp, hrun, Oper.upon]
  exact hK _ _ ⟨rfl, rfl, rfl⟩ ⟨rfl, rfl⟩

/-- The parts of a literal. -/
def evP (E : Env) : List (Nat × Operand) → Option (List (Nat × Value))
  | [] => some []
  | (i, x) :: r => match ev E x with
    | some v => match evP E r with
      | some vs => some ((i, v) :: vs)
      | none => none
    | none => none
theorem OK.parts {n : Nat} {a : Act} (h : OK n E a) : ∀ {l : List (Nat × Operand)} {vs : List (Nat × Value)}, evP E l = some vs → l.map (fun p => (p.1, a.eval p.2)) = vs
  | [], vs, hx => by simpa [evP] using hx
  | (i, x) :: r, vs, hx => by
    simp only [evP] at hx
    split at hx
    · rename_i v hv
      split at hx
      · rename_i us hu
        cases hx
        rw [List.map_cons, h.eval hv, h.parts hu]
      · cases hx
    · cases hx
def sliceI (P : Program) (t : TypeId) : Option (TypeId × Nat × Nat × List Value) :=
  match P.underlying t with
  | some (.slice e) => match P.info? e with
    | some { size := s, bytes := b, zero := some z, .. } => some (e, s, b, z.cells.toList)
    | _ => none
  | _ => none
theorem sliceI_spec {e s b : Nat} {zs : List Value} (h : sliceI P t = some (e, s, b, zs)) : ∃ (i : TypeInfo) (z : Value), P.underlying t = some (.slice e) ∧ P.info? e = some i ∧ i.zero = some z ∧ i.size = s ∧ i.bytes = b ∧ z.cells = zs.toArray := by
  unfold sliceI at h
  split at h
  · rename_i e' hu
    split at h
    · rename_i hi
      cases h
      exact ⟨_, _, hu, hi, rfl, rfl, rfl, by simp⟩
    · cases h
  · cases h
/-- What a literal's cells come to. -/
def sliceCells (len s : Nat) (zs : List Value) (parts : List (Nat × Value)) : Option (Array Value) :=
  Instr.fill (fun i => some (i * s, s)) ((Array.range (len * s)).map (zs.toArray[· % zs.toArray.size]!)) parts
theorem opl_buildSlice {e s b len : Nat} {zs : List Value} {parts : Array (Nat × Operand)} {ps : List (Nat × Value)} {cs : List Value} (hps : evP E parts.toList = some ps) (ht : sliceI P t = some (e, s, b, zs))
    (hn : Nat.ble (len * s) 16777216 = true) (hs : Nat.blt 0 (len * s) = true) (hc : sliceCells len s zs ps = some cs.toArray) :
    OpL P ⟨d, .buildSlice t len parts, ty, pos, af, g⟩ E hp (fun v hp' => v = .slice (some ⟨hp.size, 0, none⟩) len len ∧ hp' = hp.push (.cells cs.toArray e)) := by
  intro n a w ho hw K hK
  subst hw
  obtain ⟨i, z, hu, hi, hz, hsz, _, hzc⟩ := sliceI_spec ht
  have hp1 : (parts.map fun (i, x) => (i, a.eval x)).toList = ps := by
    rw [Array.toList_map]; exact ho.parts hps
  have hn' : ¬ (len * s > 2 ^ 24) := by have := Nat.le_of_ble_eq_true hn; omega
  have hs' : ¬ (len * s = 0) := by
    have : 0 < len * s := by simpa [Nat.blt_eq] using hs
    omega
  have hrun : (execOp a.eval ⟨d, .buildSlice t len parts, ty, pos, af, g⟩).run P w = .ok (.value (.slice (some ⟨w.heap.size, 0, none⟩) len len)) (w.alloc (.cells cs.toArray e)) := by
    unfold sliceCells at hc
    simp only [execOp, Instr.buildSlice, Sem.run_bind, run_underlying hu, Result.andThen_ok, sizeOf, typeInfo, zeroValue, program, Sem.run, hi, hz, Sem.run_pure, hsz, if_neg hn', if_neg hs', hp1, hzc, hc, run_newRow]
  simp only [Oper.wp, hrun, Oper.upon]
  exact hK _ _ ⟨rfl, rfl, rfl⟩ ⟨rfl, rfl⟩
/-- make([]T, n) -/
theorem opl_make {e s b : Nat} {zs : List Value} {n : Nat} {k : IntKind} (hx : ev E x = some (.int k (n : Int))) (ht : sliceI P t = some (e, s, b, zs)) (hb : Nat.blt 0 b = true) (hn : n * b ≤ 140737488355328) :
    OpL P ⟨d, .makeSlice t x x, ty, pos, af, g⟩ E hp (fun v hp' => v = .slice (some ⟨hp.size, 0, none⟩) n n ∧ hp' = hp.push (.cells ((Array.range (n * s)).map (zs.toArray[· % zs.toArray.size]!)) e)) := by
  intro m a w ho hw K hK
  subst hw
  obtain ⟨i, z, hu, hi, hz, hsz, hbz, hzc⟩ := sliceI_spec ht
  have hb' : 0 < b := by simpa [Nat.blt_eq] using hb
  have hn1 : n ≤ 140737488355328 := Nat.le_trans (Nat.le_mul_of_pos_right _ hb') hn
  have hwr : IntKind.i64.wrap (n : Int) = n := IntWalk.i64_in _ (by omega)
  have h1 : ¬ ((n : Int) < 0) := by omega
  have h2 : ¬ ((b : Int) * (n : Int) > 281474976710656) := by
    rw [← Int.natCast_mul, Nat.mul_comm]
    omega
  have hrun : (execOp a.eval ⟨d, .makeSlice t x x, ty, pos, af, g⟩).run P w = .ok (.value (.slice (some ⟨w.heap.size, 0, none⟩) n n)) (w.alloc (.cells ((Array.range (n * s)).map (zs.toArray[· % zs.toArray.size]!)) e)) := by
    by_cases h0 : n * s = 0
    · simp [execOp, ho.eval hx, Instr.makeSlice, run_underlying hu, asInt, asIntOf, typeInfo, hi, hbz, hwr, h1, h2, askRoom, roomBytes, sizeOf, hsz, h0, run_newRow]
      exact congrArg (fun x => w.alloc (.cells x e)) (Array.ext (by simp) (fun i h1 _ => absurd h1 (by simp)))
    · simp [execOp, ho.eval hx, Instr.makeSlice, run_underlying hu, asInt, asIntOf, typeInfo, hi, hbz, hwr, h1, h2, askRoom, roomBytes, sizeOf, hsz, h0, zeroValue, hz, hzc, run_newRow]
  simp only [Oper.wp, hrun, Oper.upon]
  exact hK _ _ ⟨rfl, rfl, rfl⟩ ⟨rfl, rfl⟩
end
end Go.Bn
