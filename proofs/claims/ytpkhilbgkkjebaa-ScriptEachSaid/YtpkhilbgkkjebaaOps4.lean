/- The engine, part 5: the same operations where the numbers are known to fit; stores into one's own blocks. -/
import Derived.Test.YtpkhilbgkkjebaaOps3
namespace Go.Bn
open Go

/-- n is a number of kind k. -/
def inK : IntKind → Int → Prop
  | .i8, n => -128 ≤ n ∧ n ≤ 127
  | .i16, n => -32768 ≤ n ∧ n ≤ 32767
  | .i32, n => -2147483648 ≤ n ∧ n ≤ 2147483647
  | .i64, n => -9223372036854775808 ≤ n ∧ n ≤ 9223372036854775807
  | .u8, n => 0 ≤ n ∧ n ≤ 255
  | .u16, n => 0 ≤ n ∧ n ≤ 65535
  | .u32, n => 0 ≤ n ∧ n ≤ 4294967295
  | .u64, n => 0 ≤ n ∧ n ≤ 18446744073709551615
theorem wrap_in {k : IntKind} {n : Int} (h : inK k n) : k.wrap n = n := by
  cases k <;> simp only [inK] at h
  · exact IntWalk.i8_in _ h
  · exact IntWalk.i16_in _ h
  · exact IntWalk.i32_in _ h
  · exact IntWalk.i64_in _ h
  · exact IntWalk.u8_in _ h
  · exact IntWalk.u16_in _ h
  · exact IntWalk.u32_in _ h
  · exact IntWalk.u64_in _ h

def notPure : Cls → Bool
  | .pure => false
  | _ => true
section
variable {P : Program} {E : Env} {hp : Heap} {cl : Cls} {d : Option Tmp} {ty : TypeId} {pos : String} {af : Array Edge} {g : Option (Nat × Bool)}
variable {x y : Operand} {t t' : TypeId} {k : IntKind} {a b : Int}

theorem Op1.of_load {o : Oper} {v : Value} (hc : notPure cl = true) (h : Op1 .load P o E hp v) : Op1 cl P o E hp v := by
  cases cl <;> first | (cases hc; done) | exact h
theorem op_ld {ad : Addr} {v : Value} (hc : cellH hp ad = some v) (hx : ev E x = some (.pointer (some ad))) (ht : single P t = true) (hcl : notPure cl = true) : Op1 cl P ⟨d, .load t x, ty, pos, af, g⟩ E hp v :=
  .of_load hcl (op_load hx ht hc)
theorem op_ldA {bk o n : Nat} {vs : List Value} (hc : ∀ j u, vs[j]? = some u → cellH hp ⟨bk, o + j, none⟩ = some u) (hx : ev E x = some (.pointer (some ⟨bk, o, none⟩))) (ht : aggN P t = some n) (hl : vs.length = n) (hcl : notPure cl = true) :
    Op1 cl P ⟨d, .load t x, ty, pos, af, g⟩ E hp (.agg vs.toArray) := .of_load hcl (op_loadA hx ht hl hc)
theorem op_str {A : Option Addr} {n c : Nat} {l : List UInt8} (hr : Rd hp A (l.map byteV)) (hx : ev E x = some (.slice A n c)) (hl : l.length = n) (ht : isBytesT P t = true) (ht' : isStrT P t' = true) (hcl : notPure cl = true) :
    Op1 cl P ⟨d, .convert t t' x, ty, pos, af, g⟩ E hp (.string (str l)) := .of_load hcl (op_toStr hx ht ht' hl hr)

theorem op_addI (hx : ev E x = some (.int k a)) (hy : ev E y = some (.int k b)) (h : inK k (a + b)) : Op1 cl P ⟨d, .binOp .add t x y t', ty, pos, af, g⟩ E hp (.int k (a + b)) := by
  have := op_add (cl := cl) (P := P) (hp := hp) (d := d) (ty := ty) (pos := pos) (af := af) (g := g) (t := t) (t' := t') hx hy
  rwa [wrap_in h] at this
theorem op_subI (hx : ev E x = some (.int k a)) (hy : ev E y = some (.int k b)) (h : inK k (a - b)) : Op1 cl P ⟨d, .binOp .sub t x y t', ty, pos, af, g⟩ E hp (.int k (a - b)) := by
  have := op_sub (cl := cl) (P := P) (hp := hp) (d := d) (ty := ty) (pos := pos) (af := af) (g := g) (t := t) (t' := t') hx hy
  rwa [wrap_in h] at this
theorem op_mulI (hx : ev E x = some (.int k a)) (hy : ev E y = some (.int k b)) (h : inK k (a * b)) : Op1 cl P ⟨d, .binOp .mul t x y t', ty, pos, af, g⟩ E hp (.int k (a * b)) := by
  have := op_mul (cl := cl) (P := P) (hp := hp) (d := d) (ty := ty) (pos := pos) (af := af) (g := g) (t := t) (t' := t') hx hy
  rwa [wrap_in h] at this
theorem op_convI {k' : IntKind} (hx : ev E x = some (.int k a)) (hc : convI P t t' = some k') (h : inK k' a) : Op1 cl P ⟨d, .convert t t' x, ty, pos, af, g⟩ E hp (.int k' a) := by
  have := op_conv (cl := cl) (P := P) (hp := hp) (d := d) (ty := ty) (pos := pos) (af := af) (g := g) hx hc
  rwa [wrap_in h] at this
/-- Both not negative: Lean's own division. -/
theorem op_quoI (hx : ev E x = some (.int k a)) (hy : ev E y = some (.int k b)) (ha : 0 ≤ a) (hb : 0 < b) (hk : inK k a) : Op1 cl P ⟨d, .binOp .quo t x y t', ty, pos, af, g⟩ E hp (.int k (a / b)) := by
  have := op_quo (cl := cl) (P := P) (hp := hp) (d := d) (ty := ty) (pos := pos) (af := af) (g := g) (t := t) (t' := t') hx hy (by omega)
  rw [Int.tdiv_eq_ediv_of_nonneg ha] at this
  have h1 : 0 ≤ a / b := Int.ediv_nonneg ha (by omega)
  have h2 : a / b ≤ a := Int.ediv_le_self _ ha
  rwa [wrap_in (by cases k <;> simp only [inK] at hk ⊢ <;> omega)] at this
theorem op_remI (hx : ev E x = some (.int k a)) (hy : ev E y = some (.int k b)) (ha : 0 ≤ a) (hb : 0 < b) : Op1 cl P ⟨d, .binOp .rem t x y t', ty, pos, af, g⟩ E hp (.int k (a % b)) := by
  have := op_rem (cl := cl) (P := P) (hp := hp) (d := d) (ty := ty) (pos := pos) (af := af) (g := g) (t := t) (t' := t') hx hy (by omega)
  rwa [Int.tmod_eq_emod_of_nonneg ha] at this
/-- Shifts by a number of places that is a Nat, and within the kind's bits. -/
theorem op_shlN {k' : IntKind} (s : Nat) (hx : ev E x = some (.int k a)) (hy : ev E y = some (.int k' (s : Int))) (hs : s ≤ k.bits) : Op1 cl P ⟨d, .binOp .shl t x y t', ty, pos, af, g⟩ E hp (.int k (k.wrap (a * 2 ^ s))) := by
  have := op_shl (cl := cl) (P := P) (hp := hp) (d := d) (ty := ty) (pos := pos) (af := af) (g := g) (t := t) (t' := t') hx hy (by omega)
  rwa [show min (Int.toNat (s : Int)) k.bits = s by simp; omega] at this
theorem op_shlI {k' : IntKind} (s : Nat) (hx : ev E x = some (.int k a)) (hy : ev E y = some (.int k' (s : Int))) (hs : s ≤ k.bits) (h : inK k (a * 2 ^ s)) : Op1 cl P ⟨d, .binOp .shl t x y t', ty, pos, af, g⟩ E hp (.int k (a * 2 ^ s)) := by
  have := op_shlN (cl := cl) (P := P) (hp := hp) (d := d) (ty := ty) (pos := pos) (af := af) (g := g) (t := t) (t' := t') s hx hy hs
  rwa [wrap_in h] at this
theorem op_shrN {k' : IntKind} (s : Nat) (hx : ev E x = some (.int k a)) (hy : ev E y = some (.int k' (s : Int))) (hs : s ≤ k.bits) : Op1 cl P ⟨d, .binOp .shr t x y t', ty, pos, af, g⟩ E hp (.int k (a / 2 ^ s)) := by
  have := op_shr (cl := cl) (P := P) (hp := hp) (d := d) (ty := ty) (pos := pos) (af := af) (g := g) (t := t) (t' := t') hx hy (by omega)
  rw [show min (Int.toNat (s : Int)) k.bits = s by simp; omega] at this
  rwa [Int.fdiv_eq_ediv_of_nonneg _ (Int.le_of_lt (Int.pow_pos (by omega)))] at this

/-! Numbers that aren't negative, as casts. -/
theorem op_addN {m n : Nat} (hx : ev E x = some (.int k (m : Int))) (hy : ev E y = some (.int k (n : Int))) (h : inK k ((m + n : Nat) : Int)) : Op1 cl P ⟨d, .binOp .add t x y t', ty, pos, af, g⟩ E hp (.int k ((m + n : Nat) : Int)) := by
  rw [Int.natCast_add] at h ⊢; exact op_addI hx hy h
theorem op_subN {m n : Nat} (hx : ev E x = some (.int k (m : Int))) (hy : ev E y = some (.int k (n : Int))) (hle : n ≤ m) (h : inK k ((m - n : Nat) : Int)) : Op1 cl P ⟨d, .binOp .sub t x y t', ty, pos, af, g⟩ E hp (.int k ((m - n : Nat) : Int)) := by
  rw [Int.ofNat_sub hle] at h ⊢; exact op_subI hx hy h
theorem op_mulN {m n : Nat} (hx : ev E x = some (.int k (m : Int))) (hy : ev E y = some (.int k (n : Int))) (h : inK k ((m * n : Nat) : Int)) : Op1 cl P ⟨d, .binOp .mul t x y t', ty, pos, af, g⟩ E hp (.int k ((m * n : Nat) : Int)) := by
  rw [Int.natCast_mul] at h ⊢; exact op_mulI hx hy h
theorem op_quoN {m n : Nat} (hx : ev E x = some (.int k (m : Int))) (hy : ev E y = some (.int k (n : Int))) (hn : 0 < n) (h : inK k (m : Int)) : Op1 cl P ⟨d, .binOp .quo t x y t', ty, pos, af, g⟩ E hp (.int k ((m / n : Nat) : Int)) := by
  rw [Int.natCast_ediv]; exact op_quoI hx hy (by omega) (by omega) h
theorem op_remN {m n : Nat} (hx : ev E x = some (.int k (m : Int))) (hy : ev E y = some (.int k (n : Int))) (hn : 0 < n) : Op1 cl P ⟨d, .binOp .rem t x y t', ty, pos, af, g⟩ E hp (.int k ((m % n : Nat) : Int)) := by
  rw [Int.natCast_emod]; exact op_remI hx hy (by omega) (by omega)
theorem op_shlC {k' : IntKind} {m : Nat} (s : Nat) (hx : ev E x = some (.int k (m : Int))) (hy : ev E y = some (.int k' (s : Int))) (hs : s ≤ k.bits) (h : inK k ((m * 2 ^ s : Nat) : Int)) : Op1 cl P ⟨d, .binOp .shl t x y t', ty, pos, af, g⟩ E hp (.int k ((m * 2 ^ s : Nat) : Int)) := by
  have e : ((m * 2 ^ s : Nat) : Int) = (m : Int) * 2 ^ s := by rw [Int.natCast_mul, Int.natCast_pow]; rfl
  rw [e] at h ⊢; exact op_shlI s hx hy hs h
theorem op_shrC {k' : IntKind} {m : Nat} (s : Nat) (hx : ev E x = some (.int k (m : Int))) (hy : ev E y = some (.int k' (s : Int))) (hs : s ≤ k.bits) : Op1 cl P ⟨d, .binOp .shr t x y t', ty, pos, af, g⟩ E hp (.int k ((m / 2 ^ s : Nat) : Int)) := by
  have e : ((m / 2 ^ s : Nat) : Int) = (m : Int) / 2 ^ s := by rw [Int.natCast_ediv, Int.natCast_pow]; rfl
  rw [e]; exact op_shrN s hx hy hs
/-- A shift by more places than there are bits, too. -/
theorem op_shrA {k' : IntKind} {m : Nat} (s : Nat) (hx : ev E x = some (.int k (m : Int))) (hy : ev E y = some (.int k' (s : Int))) (hm : m < 2 ^ k.bits) : Op1 cl P ⟨d, .binOp .shr t x y t', ty, pos, af, g⟩ E hp (.int k ((m / 2 ^ s : Nat) : Int)) := by
  rcases Nat.lt_or_ge k.bits s with h | h
  · have := op_shr (cl := cl) (P := P) (hp := hp) (d := d) (ty := ty) (pos := pos) (af := af) (g := g) (t := t) (t' := t') hx hy (by omega)
    rw [show min (Int.toNat (s : Int)) k.bits = k.bits by simp; omega, Int.fdiv_eq_ediv_of_nonneg _ (Int.le_of_lt (Int.pow_pos (by omega)))] at this
    have e1 : (m : Int) / 2 ^ k.bits = ((m / 2 ^ k.bits : Nat) : Int) := by rw [Int.natCast_ediv, Int.natCast_pow]; rfl
    rw [e1, Nat.div_eq_of_lt hm] at this
    rwa [Nat.div_eq_of_lt (Nat.lt_of_lt_of_le hm (Nat.pow_le_pow_right (by omega) (by omega)))]
  · exact op_shrC s hx hy h
/-- A number of kind u8, u16, u32, u64 out of any that isn't negative. -/
theorem wrap_nat {k : IntKind} (hk : k.signed = false) (m : Nat) : k.wrap (m : Int) = ((m % 2 ^ k.bits : Nat) : Int) := by
  unfold IntKind.wrap
  simp [hk]
theorem wrap_u8 (m : Nat) : IntKind.u8.wrap (m : Int) = ((m % 256 : Nat) : Int) := by have h := wrap_nat (k := .u8) rfl m; simp only [IntKind.bits, Nat.reducePow] at h; exact h
theorem wrap_u32 (m : Nat) : IntKind.u32.wrap (m : Int) = ((m % 4294967296 : Nat) : Int) := by have h := wrap_nat (k := .u32) rfl m; simp only [IntKind.bits, Nat.reducePow] at h; exact h
theorem wrap_u64 (m : Nat) : IntKind.u64.wrap (m : Int) = ((m % 18446744073709551616 : Nat) : Int) := by have h := wrap_nat (k := .u64) rfl m; simp only [IntKind.bits, Nat.reducePow] at h; exact h
theorem op_convU {k' : IntKind} {m : Nat} (hx : ev E x = some (.int k (m : Int))) (hc : convI P t t' = some k') (hk : k'.signed = false) : Op1 cl P ⟨d, .convert t t' x, ty, pos, af, g⟩ E hp (.int k' ((m % 2 ^ k'.bits : Nat) : Int)) := by
  have := op_conv (cl := cl) (P := P) (hp := hp) (d := d) (ty := ty) (pos := pos) (af := af) (g := g) hx hc
  rwa [wrap_nat hk] at this

/-! Bits of numbers that aren't negative. -/
theorem bitsOp_nat {k : IntKind} (op : BinOp) (m n : Nat) (hm : m < 2 ^ k.bits) (hn : n < 2 ^ k.bits) : bitsOp op k (m : Int) (n : Int) = k.wrap ((match op with
    | .and => m &&& n
    | .or => m ||| n
    | .xor => m ^^^ n
    | _ => m &&& (2 ^ k.bits - 1 - n)) : Nat) := by
  have e1 : BitVec.ofInt k.bits (m : Int) = BitVec.ofNat k.bits m := by simp
  have e2 : BitVec.ofInt k.bits (n : Int) = BitVec.ofNat k.bits n := by simp
  unfold bitsOp
  simp only [e1, e2]
  split <;> simp [Nat.mod_eq_of_lt hm, Nat.mod_eq_of_lt hn]
theorem two_bits (k : IntKind) (hk : k.signed = false) {n : Nat} (h : n < 2 ^ k.bits) : inK k (n : Int) := by
  cases k <;> first | (cases hk; done) | (simp only [IntKind.bits] at h; simp only [inK]; omega)
theorem op_andN {m n : Nat} (hx : ev E x = some (.int k (m : Int))) (hy : ev E y = some (.int k (n : Int))) (hk : k.signed = false) (hm : m < 2 ^ k.bits) (hn : n < 2 ^ k.bits) : Op1 cl P ⟨d, .binOp .and t x y t', ty, pos, af, g⟩ E hp (.int k ((m &&& n : Nat) : Int)) := by
  have := op_and (cl := cl) (P := P) (hp := hp) (d := d) (ty := ty) (pos := pos) (af := af) (g := g) (t := t) (t' := t') hx hy
  rw [bitsOp_nat .and m n hm hn] at this
  simp only at this
  rwa [wrap_in (two_bits k hk (Nat.lt_of_le_of_lt Nat.and_le_left hm))] at this
theorem op_orN {m n : Nat} (hx : ev E x = some (.int k (m : Int))) (hy : ev E y = some (.int k (n : Int))) (hk : k.signed = false) (hm : m < 2 ^ k.bits) (hn : n < 2 ^ k.bits) : Op1 cl P ⟨d, .binOp .or t x y t', ty, pos, af, g⟩ E hp (.int k ((m ||| n : Nat) : Int)) := by
  have := op_or (cl := cl) (P := P) (hp := hp) (d := d) (ty := ty) (pos := pos) (af := af) (g := g) (t := t) (t' := t') hx hy
  rw [bitsOp_nat .or m n hm hn] at this
  simp only at this
  rwa [wrap_in (two_bits k hk (Nat.or_lt_two_pow hm hn))] at this
theorem op_xorN {m n : Nat} (hx : ev E x = some (.int k (m : Int))) (hy : ev E y = some (.int k (n : Int))) (hk : k.signed = false) (hm : m < 2 ^ k.bits) (hn : n < 2 ^ k.bits) : Op1 cl P ⟨d, .binOp .xor t x y t', ty, pos, af, g⟩ E hp (.int k ((m ^^^ n : Nat) : Int)) := by
  have := op_xor (cl := cl) (P := P) (hp := hp) (d := d) (ty := ty) (pos := pos) (af := af) (g := g) (t := t) (t' := t') hx hy
  rw [bitsOp_nat .xor m n hm hn] at this
  simp only at this
  rwa [wrap_in (two_bits k hk (Nat.xor_lt_two_pow hm hn))] at this
/-- n&1 of a number of any kind that isn't negative. -/
theorem op_andS {m n : Nat} (hx : ev E x = some (.int k (m : Int))) (hy : ev E y = some (.int k (n : Int))) (hm : inK k (m : Int)) (hn : inK k (n : Int)) : Op1 cl P ⟨d, .binOp .and t x y t', ty, pos, af, g⟩ E hp (.int k ((m &&& n : Nat) : Int)) := by
  have h1 : m < 2 ^ k.bits := by cases k <;> simp only [inK] at hm <;> simp only [IntKind.bits] <;> omega
  have h2 : n < 2 ^ k.bits := by cases k <;> simp only [inK] at hn <;> simp only [IntKind.bits] <;> omega
  have := op_and (cl := cl) (P := P) (hp := hp) (d := d) (ty := ty) (pos := pos) (af := af) (g := g) (t := t) (t' := t') hx hy
  rw [bitsOp_nat .and m n h1 h2] at this
  simp only at this
  have h3 : m &&& n ≤ m := Nat.and_le_left
  rwa [wrap_in (by cases k <;> simp only [inK] at hm ⊢ <;> omega)] at this

theorem one_bytes (l : List UInt8) : ∀ u ∈ l.map byteV, Value.one u = true := by
  intro u hu
  obtain ⟨b, _, rfl⟩ := List.mem_map.1 hu
  rfl
theorem one_ints (k : IntKind) (l : List Int) : ∀ u ∈ l.map (Value.int k), Value.one u = true := by
  intro u hu
  obtain ⟨b, _, rfl⟩ := List.mem_map.1 hu
  rfl
/-- What was just laid can be read. -/
theorem rd_push (hp : Heap) (cs : List Value) (e : TypeId) : Rd (hp.push (.cells cs.toArray e)) (some ⟨hp.size, 0, none⟩) cs :=
  .inr ⟨hp.size, 0, rfl, fun i u hu => by simp [cellH]; exact hu⟩
theorem opl_build1 {e bt : Nat} {zv v : Value} (hx : ev E x = some v) (h1 : Value.one v = true) (ht : sliceI P t = some (e, 1, bt, [zv])) :
    OpL P ⟨d, .buildSlice t 1 #[(0, x)], ty, pos, af, g⟩ E hp (fun u hp' => u = .slice (some ⟨hp.size, 0, none⟩) 1 1 ∧ hp' = hp.push (.cells [v].toArray e)) := by
  refine opl_buildSlice (ps := [(0, v)]) (cs := [v]) (by simp [evP, hx]) ht rfl rfl ?_
  have hc : v.cells = #[v] := Value.one_cells h1
  have hr : (Array.range (1 * 1)).map (fun i => [zv].toArray[i % [zv].toArray.size]!) = #[zv] := by kernel_rfl
  unfold sliceCells
  rw [hr]
  simp [Instr.fill, hc]
/-! Stores into blocks of one's own. -/
theorem opl_store_pt {B : Nat} {h0 : Heap} {rs : List Res} (st : St B h0 hp rs) (j : Nat) {p i : Nat} {T : TypeId} {cs : List Value} {v : Value} (hj : rs[j]? = some (pt p T cs)) (hx : ev E x = some (.pointer (some ⟨p, i, none⟩))) (hy : ev E y = some v)
    (hi : Nat.blt i cs.length = true) (ht : single P t = true) (h1 : Value.one v = true) :
    OpL P ⟨d, .store t x y, ty, pos, af, g⟩ E hp (fun _ hp' => St B h0 hp' (rs.set j (pt p T (cs.set i v)))) := by
  obtain ⟨S, ⟨hS, hb⟩, _⟩ := st.at_ hj
  have hi' : i < cs.length := by simpa [Nat.blt_eq] using hi
  have hc : cellH hp ⟨p, i, none⟩ = some cs[i] := by simp [cellH, hb, hi']
  have hf : frozenH hp ⟨p, i, none⟩ = false := by simp [frozenH, hb]
  intro n a w ho hw K hK
  exact opl_store hx hy ht h1 hc hf n a w ho hw K fun v' w' hi ⟨_, hh⟩ => hK v' w' hi (by rw [hh]; exact st.upd hj (upd_pt v))
/-- A store into a block whose cells are known, at a place that is a number. -/
theorem opl_store_at {B : Nat} {h0 : Heap} {rs : List Res} (st : St B h0 hp rs) (j : Nat) {p i : Nat} {T : TypeId} {cs : List Value} {v : Value} (hj : rs[j]? = some (pt p T cs)) (hx : ev E x = some (.pointer (some ⟨p, i, none⟩))) (hy : ev E y = some v)
    (hi : i < cs.length) (ht : single P t = true) (h1 : Value.one v = true) :
    OpL P ⟨d, .store t x y, ty, pos, af, g⟩ E hp (fun _ hp' => St B h0 hp' (rs.set j (pt p T (cs.set i v)))) := opl_store_pt st j hj hx hy (by simpa [Nat.blt_eq] using hi) ht h1
theorem upd_row {e sz gb o n c i : Nat} {vs : List Value} {hp : Heap} (v : Value) : Upd (row e sz (.slice (some ⟨gb, o, none⟩) n c) vs) hp (row e sz (.slice (some ⟨gb, o, none⟩) n c) (vs.set i v)) (setH hp ⟨gb, o + i, none⟩ v) := by
  refine ⟨by rw [setH_size]; exact Nat.le_refl _, fun S hr => ?_⟩
  rcases hr with ⟨hh, _⟩ | ⟨g', n', cap, cur, fr, hh, h2, h3, h4, h5, h6, h7, h8, hS⟩
  · cases hh
  · cases hh
    refine ⟨S, .inr ⟨gb, n, c, cur.setIfInBounds i v, fr, rfl, ?_, h3, h4, by simpa using h5, ?_, by simpa using h7, by simpa using h8, hS⟩, fun k hk => .inl hk, fun k _ hk => setH_other _ _ _ _ (fun e => hk ((hS k).2 e))⟩
    · rw [Nat.zero_add]; exact setH_same v h2
    · rw [Array.toList_setIfInBounds, List.take_set, h6]
theorem opl_store_row {B : Nat} {h0 : Heap} {rs : List Res} (st : St B h0 hp rs) (j : Nat) {gb o e sz n c i : Nat} {vs : List Value} {v : Value} (hj : rs[j]? = some (row e sz (.slice (some ⟨gb, o, none⟩) n c) vs)) (hx : ev E x = some (.pointer (some ⟨gb, o + i, none⟩))) (hy : ev E y = some v)
    (hi : i < vs.length) (ht : single P t = true) (h1 : Value.one v = true) :
    OpL P ⟨d, .store t x y, ty, pos, af, g⟩ E hp (fun _ hp' => St B h0 hp' (rs.set j (row e sz (.slice (some ⟨gb, o, none⟩) n c) (vs.set i v)))) := by
  obtain ⟨S, hr, _⟩ := st.at_ hj
  have key : cellH hp ⟨gb, o + i, none⟩ = some vs[i] ∧ frozenH hp ⟨gb, o + i, none⟩ = false := by
    rcases hr with ⟨hh, _⟩ | ⟨g', n', cap, cur, fr, hh, h2, h3, h4, h5, h6, h7, h8, hS⟩
    · cases hh
    · cases hh
      have hlt : i < cur.size := by
        have : vs.length ≤ cur.size := by rw [h7, h5]; exact Nat.mul_le_mul_right _ h3
        omega
      constructor
      · simp only [cellH, h2, Nat.zero_add]
        have : vs[i]? = cur[i]? := by
          rw [← h6, List.getElem?_take, if_pos (by omega)]; simp
        simp [← this, hi]
      · have := h8.free i hlt
        simp only [frozenH, h2, Nat.zero_add]
        simpa using this
  intro m a w ho hw K hK
  exact opl_store hx hy ht h1 key.1 key.2 m a w ho hw K fun v' w' hi ⟨_, hh⟩ => hK v' w' hi (by rw [hh]; exact st.upd hj (upd_row v))
/-- A literal of one element, as a slice of one's own. -/
theorem new_row (hp : Heap) (e sz n : Nat) (cs : List Value) (hl : cs.length = n * sz) (hn : n ≤ maxLen) : New (row e sz (.slice (some ⟨hp.size, 0, none⟩) n n) cs) hp (hp.push (.cells cs.toArray e)) := by
  refine ⟨ext_push _ _, fun k => k = hp.size, .inr ⟨hp.size, n, n, cs.toArray, (0, 0), rfl, push_at _ _, Nat.le_refl _, hn, by simpa using hl, ?_, hl, ?_, fun _ => Iff.rfl⟩, fun k hk => by omega⟩
  · rw [List.take_of_length_le (by simp; omega)]
  · exact .inl rfl
theorem opl_lit1 {e bt : Nat} {zv v : Value} (hx : ev E x = some v) (h1 : Value.one v = true) (ht : sliceI P t = some (e, 1, bt, [zv])) :
    OpL P ⟨d, .buildSlice t 1 #[(0, x)], ty, pos, af, g⟩ E hp (fun u hp' => New (row e 1 u [v]) hp hp') := by
  intro n a w ho hw K hK
  exact opl_build1 hx h1 ht n a w ho hw K fun v' w' hi ⟨h1, h2⟩ => hK v' w' hi (by rw [h1, h2]; exact new_row hp e 1 1 [v] rfl (by simp [maxLen]))
/-- The one thing that is handed on to append. -/
theorem opl_var1 {e bt : Nat} {zv v : Value} (hx : ev E x = some v) (h1 : Value.one v = true) (ht : sliceI P t = some (e, 1, bt, [zv])) :
    OpL P ⟨d, .buildSlice t 1 #[(0, x)], ty, pos, af, g⟩ E hp (fun u hp' => ∃ A, u = .slice A 1 1 ∧ Ext hp hp' ∧ Rd hp' A [v]) := by
  intro n a w ho hw K hK
  exact opl_build1 hx h1 ht n a w ho hw K fun v' w' hi ⟨h1, h2⟩ => hK v' w' hi ⟨_, h1, by rw [h2]; exact ext_push _ _, by rw [h2]; exact rd_push _ _ _⟩
theorem opl_new {zs : List Value} (hz : zeroC P t = some zs) : OpL P ⟨d, .alloc t, ty, pos, af, g⟩ E hp (fun v hp' => ∃ p, v = .pointer (some ⟨p, 0, none⟩) ∧ New (pt p t zs) hp hp') := by
  intro n a w ho hw K hK
  exact opl_alloc hz n a w ho hw K fun v' w' hi ⟨h1, h2⟩ => hK v' w' hi ⟨_, h1, by rw [h2]; exact new_pt _⟩
theorem opl_bx {v : Value} {cs : List Value} (hx : ev E x = some v) (hc : v.cells = cs.toArray) : OpL P ⟨d, .box t x, ty, pos, af, g⟩ E hp (fun u hp' => ∃ p, u = .pointer (some ⟨p, 0, none⟩) ∧ New (pt p t cs) hp hp') := by
  intro n a w ho hw K hK
  exact opl_box hx hc n a w ho hw K fun v' w' hi ⟨h1, h2⟩ => hK v' w' hi ⟨_, h1, by rw [h2]; exact new_pt _⟩
theorem madeCells_rep (n : Nat) (z : Value) : ((Array.range (n * 1)).map (fun i => [z].toArray[i % [z].toArray.size]!)) = (List.replicate n z).toArray := by
  apply Array.ext
  · simp
  · intro i h1 h2
    simp [Nat.mod_one]
/-- make([]T, n), an element having one cell. -/
theorem opl_mk {e b : Nat} {zv : Value} {n : Nat} {k : IntKind} (hn : n * b ≤ 140737488355328) (hx : ev E x = some (.int k (n : Int))) (ht : sliceI P t = some (e, 1, b, [zv])) (hb : Nat.blt 0 b = true) :
    OpL P ⟨d, .makeSlice t x x, ty, pos, af, g⟩ E hp (fun v hp' => New (row e 1 v (List.replicate n zv)) hp hp') := by
  intro m a w ho hw K hK
  have hn1 : n ≤ 140737488355328 := Nat.le_trans (Nat.le_mul_of_pos_right _ (by simpa [Nat.blt_eq] using hb)) hn
  exact opl_make hx ht hb hn m a w ho hw K fun v' w' hi ⟨h1, h2⟩ => hK v' w' hi (by rw [h1, h2, madeCells_rep]; exact new_row hp e 1 n _ (by simp) (by simp only [maxLen]; omega))
/-- []T{} -/
theorem opl_lit0 {e sz b : Nat} {zs : List Value} (ht : sliceI P t = some (e, sz, b, zs)) : OpL P ⟨d, .buildSlice t 0 #[], ty, pos, af, g⟩ E hp (fun u hp' => New (row e sz u []) hp hp') := by
  intro n a w ho hw K hK
  subst hw
  obtain ⟨i, z, hu, hi, hz, hsz, _, hzc⟩ := sliceI_spec ht
  have hrun : (execOp a.eval ⟨d, .buildSlice t 0 #[], ty, pos, af, g⟩).run P w = .ok (.value (.slice (some ⟨w.heap.size, 0, none⟩) 0 0)) (w.alloc (.cells #[] e)) := by
    simp only [execOp, Instr.buildSlice, Sem.run_bind, run_underlying hu, Result.andThen_ok, sizeOf, typeInfo, program, Sem.run, hi, Sem.run_pure, Nat.zero_mul, if_true, List.map_toArray]
    simp [Instr.fill, run_newRow]
    exact congrArg (fun x => w.alloc (.cells x e)) (Array.ext (by simp) (fun i h1 _ => absurd h1 (by simp)))
  simp only [Oper.wp, hrun, Oper.upon]
  exact hK _ _ ⟨rfl, rfl, rfl⟩ (by
    have := new_row w.heap e sz 0 [] (by simp) (by simp [maxLen])
    exact this)
end
theorem St.nilrow {B : Nat} {h0 hp : Heap} {rs : List Res} (s : St B h0 hp rs) (e sz : Nat) : St B h0 hp (Bn.row e sz (.slice none 0 0) [] :: rs) := by
  obtain ⟨S, hS⟩ := s.own
  exact ⟨s.low, s.base, S, fun _ => False, S, .inl ⟨rfl, rfl, fun _ h => h⟩, hS, fun _ h => h.elim, fun k => (or_iff_right (fun h => h)).symm, fun _ h => h.elim⟩
end Go.Bn
