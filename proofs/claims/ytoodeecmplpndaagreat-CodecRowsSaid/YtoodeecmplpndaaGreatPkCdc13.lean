/- Packed texts of a claim: what its theorem uses, joined. -/
import Derived.Test.YtoodeecmplpndaaGreatPkCdc12
section
set_option linter.unusedVariables false
set_option linter.unusedSimpArgs false
set_option maxHeartbeats 4000000
set_option maxRecDepth 20000
namespace Go.Bn
open Go Proofs
theorem shl_or (x y k : Nat) (h : x < 2 ^ k) : x ||| y * 2 ^ k = x + y * 2 ^ k := by
 have := Nat.two_pow_add_eq_or_of_lt h y
 rw [Nat.or_comm, Nat.mul_comm, ← this]; omega
theorem mkey_spec {n c a : Nat} {A : Option Addr} {b : List UInt8} {h0 : Heap} (hr : Rd h0 A (b.map byteV)) (hl : b.length = n) (hn : n ≤ 1099511627776) (ha : a + 3 ≤ n) :
  Ret Tryz.prog 179 [.slice A n c, nV a] h0 fun v h' => v = nV (keyM b a) ∧ h0 = h' := by
 obtain ⟨g, o, rfl, hc⟩ := hr.at_ (by rw [List.length_map]; omega)
 have hci : ∀ i (hi : i < b.length), cellH h0 ⟨g, o + i, none⟩ = some (byteV b[i]) := fun i hi => hc i _ (by rw [List.getElem?_map, List.getElem?_eq_getElem hi]; rfl)
 have l1 := (b[a]'(by omega)).toNat_lt
 have l2 := (b[a + 1]'(by omega)).toNat_lt
 have l3 := (b[a + 2]'(by omega)).toNat_lt
 refine ret_of_X Tryz.func179 rfl rfl fun w0 hw0 => ?_
 simp only [argE, Nat.zero_add, Nat.reduceAdd]
 refine X_seq (X_reg (XA rfl rfl rfl (XR_nil (X_seq ?_))))
 refine X_draw byKind (by kernel_rfl) (by kernel_rfl) ?_
 refine XV rfl rfl rfl (XV rfl rfl rfl ?_)
 refine XR_a (op_index1 (i := a) rfl rfl rfl (by omega)) rfl rfl ?_
 refine XR_a (op_ld (hci a (by omega)) rfl rfl rfl) rfl rfl ?_
 first | refine XR_a (op_convI rfl rfl (by simp only [inK]; omega)) rfl rfl ?_ | refine XR_a (op_conv rfl rfl) rfl rfl ?_
 refine XR_as (nV (b[a]'(by omega)).toNat) rfl ?_
 refine XV rfl rfl rfl (XV rfl rfl rfl ?_)
 first | refine XR_a (op_addN (n := 1) rfl rfl (by simp only [inK]; omega)) rfl rfl ?_ | refine XR_a (op_addI rfl rfl (by simp only [inK]; omega)) rfl rfl ?_ | refine XR_a (op_add rfl rfl) rfl rfl ?_
 refine XR_a (op_index1 (i := a + 1) rfl rfl rfl (by omega)) rfl rfl ?_
 refine XR_a (op_ld (hci (a + 1) (by omega)) rfl rfl rfl) rfl rfl ?_
 first | refine XR_a (op_convI rfl rfl (by simp only [inK]; omega)) rfl rfl ?_ | refine XR_a (op_conv rfl rfl) rfl rfl ?_
 refine XR_as (nV (b[a + 1]'(by omega)).toNat) rfl ?_
 first | refine XR_a (op_shlC 8 rfl rfl (by decide) (by simp only [inK]; omega)) rfl rfl ?_ | refine XR_a (op_shlI 8 rfl rfl (by decide) (by simp only [inK]; omega)) rfl rfl ?_ | refine XR_a (op_shlN 8 rfl rfl (by decide)) rfl rfl ?_
 refine XR_a (op_orS rfl rfl (by omega) (by omega)) rfl rfl ?_
 rw [shl_or _ _ 8 (by omega)]
 refine XV rfl rfl rfl (XV rfl rfl rfl ?_)
 first | refine XR_a (op_addN (n := 2) rfl rfl (by simp only [inK]; omega)) rfl rfl ?_ | refine XR_a (op_addI rfl rfl (by simp only [inK]; omega)) rfl rfl ?_ | refine XR_a (op_add rfl rfl) rfl rfl ?_
 refine XR_a (op_index1 (i := a + 2) rfl rfl rfl (by omega)) rfl rfl ?_
 refine XR_a (op_ld (hci (a + 2) (by omega)) rfl rfl rfl) rfl rfl ?_
 first | refine XR_a (op_convI rfl rfl (by simp only [inK]; omega)) rfl rfl ?_ | refine XR_a (op_conv rfl rfl) rfl rfl ?_
 refine XR_as (nV (b[a + 2]'(by omega)).toNat) rfl ?_
 first | refine XR_a (op_shlC 16 rfl rfl (by decide) (by simp only [inK]; omega)) rfl rfl ?_ | refine XR_a (op_shlI 16 rfl rfl (by decide) (by simp only [inK]; omega)) rfl rfl ?_ | refine XR_a (op_shlN 16 rfl rfl (by decide)) rfl rfl ?_
 refine XR_a (op_orS rfl rfl (by omega) (by omega)) rfl rfl ?_
 rw [shl_or _ _ 16 (by omega)]
 refine XA rfl rfl rfl (XR_nil ?_)
 refine X_ret (.cons (.tmp rfl) .nil) ?_
 refine ⟨congrArg (Value.int .i64) (congrArg Nat.cast ?_), rfl⟩
 unfold keyM
 rw [getD_at (by omega), getD_at (by omega), getD_at (by omega)]
 omega
def lastF (b : List UInt8) (u : Nat) : Int → Option Value := fun k => if 0 ≤ k then (lastM b u k.toNat).map nV else none
theorem lastF_at (b : List UInt8) (u k : Nat) : lastF b u (k : Int) = (lastM b u k).map nV := by unfold lastF; rw [if_pos (by omega)]; rfl
theorem lastF_zero (b : List UInt8) : lastF b 0 = fun _ => none := by
 funext k; unfold lastF; split <;> rfl
theorem lastF_succ (b : List UInt8) (u : Nat) : lastF b (u + 1) = putF (lastF b u) (keyM b u : Nat) (nV u) := by
 funext k
 unfold putF
 dsimp only [lastF]
 by_cases hk : 0 ≤ k
 ·rw [if_pos hk, if_pos hk, lastM_succ]
  by_cases h : keyM b u = k.toNat
  ·rw [if_pos h, if_pos (by omega)]; rfl
  ·rw [if_neg h, if_neg (by omega)]
 ·rw [if_neg hk, if_neg hk, if_neg (by omega)]
def prevs (b : List UInt8) (u : Nat) : List Int := (List.range u).map fun i => optI (prevM b i)
theorem prevs_length (b : List UInt8) (u : Nat) : (prevs b u).length = u := by simp [prevs]
theorem prevs_succ (b : List UInt8) (u : Nat) : prevs b (u + 1) = prevs b u ++ [optI (prevM b u)] := by simp [prevs, List.range_succ]
theorem prevs_get {b : List UInt8} {u i : Nat} (h : i < u) : (prevs b u)[i]? = some (optI (prevM b i)) := by simp [prevs, h]
def finR (p : Nat) (A : Option Addr) (n c u : Nat) (b : List UInt8) : Res :=
  exR fun (x : Value × Nat) => starR (starR (row 3 1 x.1 ((prevs b u).map iV)) (mapF x.2 (lastF b u))) (pt p 245 [.slice A n c, .map (some x.2), x.1, nV u])
theorem St.fin {B : Nat} {h0 hp : Heap} {p n c u : Nat} {A : Option Addr} {b : List UInt8} {F : List Res} : St B h0 hp (finR p A n c u b :: F) ↔ ∃ v m, St B h0 hp (Bn.row 3 1 v ((prevs b u).map iV) :: mapF m (lastF b u) :: pt p 245 [.slice A n c, .map (some m), v, nV u] :: F) :=
 ⟨fun st => by
  obtain ⟨⟨v, m⟩, st⟩ := St.ex.1 st
  exact ⟨v, m, St.star.1 (St.star.1 st)⟩, fun ⟨v, m, st⟩ => St.ex.2 ⟨(v, m), St.star.2 (St.star.2 st)⟩⟩
theorem mnew_spec {n c : Nat} {A : Option Addr} {b : List UInt8} {h0 : Heap} :
  Ret Tryz.prog 128 [.slice A n c] h0 fun v h' => ∃ p, v = .pointer (some ⟨p, 0, none⟩) ∧ St h0.size h0 h' [finR p A n c 0 b] := by
 refine ret_of_X Tryz.func128 rfl rfl fun w0 hw0 => ?_
 simp only [argE, Nat.zero_add, Nat.reduceAdd]
 have st := St.start h0
 refine X_seq (X_reg (XA rfl rfl rfl (XR_nil (X_seq (X_reg (XV rfl rfl rfl ?_))))))
 refine XR_wa opl_mkMapF rfl rfl rfl ?_
 rintro _ hp ⟨m, rfl, hnew⟩
 replace st := st.new hnew
 refine XR_a (op_build (ps := [(0, .slice A n c), (1, .map (some m))]) (cs := #[.slice A n c, .map (some m), .slice none 0 0, nV 0]) rfl rfl) rfl rfl ?_
 refine XR_wa (opl_bx (cs := [.slice A n c, .map (some m), .slice none 0 0, nV 0]) rfl rfl) rfl rfl rfl ?_
 rintro _ hp ⟨p, rfl, hnew⟩
 replace st := st.new hnew
 refine XA rfl rfl rfl (XR_nil ?_)
 refine X_ret (.cons (.tmp rfl) .nil) ?_
 refine ⟨_, rfl, St.fin.2 ⟨.slice none 0 0, m, ?_⟩⟩
 rw [lastF_zero]
 exact (st.nilrow 3 1).re 3 [0, 2, 1] (by decide)
theorem mwhole_spec {B p n c u a : Nat} {A : Option Addr} {b : List UInt8} {F : List Res} {hb h0 : Heap} (st0 : St B hb h0 (finR p A n c u b :: F)) (hn : n ≤ 1099511627776) :
  Ret Tryz.prog 176 [.pointer (some ⟨p, 0, none⟩), nV a] h0 fun v h' => v = .bool (decide (a + 3 ≤ n)) ∧ h0 = h' := by
 obtain ⟨v, m, st⟩ := St.fin.1 st0
 refine ret_of_X Tryz.func176 rfl rfl fun w0 hw0 => ?_
 simp only [argE, Nat.zero_add, Nat.reduceAdd]
 refine X_seq (X_reg (XA rfl rfl rfl (XR_nil (X_seq (X_reg (XV rfl rfl rfl ?_))))))
 refine XR_a (op_geq rfl rfl) rfl rfl ?_
 refine XR_as (.bool true) (congrArg Value.bool (decide_eq_true (by omega))) ?_
 refine XV rfl rfl rfl (XV rfl rfl rfl (XV rfl rfl rfl (XR_a (op_nilCheck rfl) rfl rfl ?_)))
 first | refine XR_a (op_field0 rfl rfl) rfl rfl ?_ | refine XR_a (op_fieldn rfl rfl) rfl rfl ?_
 refine XR_a (op_ld (st.cell 2 (i := 0) rfl rfl) rfl rfl rfl) rfl rfl ?_
 refine XR_a (op_len rfl rfl rfl) rfl rfl ?_
 refine XR_a (op_subI rfl rfl (by simp only [inK]; omega)) rfl rfl ?_
 refine XR_a (op_leq rfl rfl) rfl rfl ?_
 refine XR_as (.bool (decide (a + 3 ≤ n))) (congrArg Value.bool (decide_eq_decide.2 ⟨fun _ => by omega, fun _ => by omega⟩)) ?_
 refine XR_a (op_pick_t rfl rfl) rfl rfl (XA rfl rfl rfl (XR_nil ?_))
 refine X_ret (.cons (.tmp rfl) .nil) ?_
 exact ⟨rfl, rfl⟩
theorem mlearn_spec {B p n c u a : Nat} {A : Option Addr} {b : List UInt8} {F : List Res} {h0 : Heap} (st0 : St B h0 h0 (finR p A n c u b :: F)) (hrB : ∀ h', Low B h0 h' → Rd h' A (b.map byteV)) (hl : b.length = n) (hn : n ≤ 1099511627776) (ha : a + 3 ≤ n) (hu : u ≤ n) :
  Ret Tryz.prog 177 [.pointer (some ⟨p, 0, none⟩), nV a] h0 fun _ h' => St B h0 h' (finR p A n c (max u (a + 1)) b :: F) := by
 refine ret_of_X Tryz.func177 rfl rfl fun w0 hw0 => ?_
 simp only [argE, Nat.zero_add, Nat.reduceAdd]
 refine X_block ?_
 refine X_loop (fun s => a + 1 - s) (fun s => [(0, .pointer (some ⟨p, 0, none⟩)), (1, nV a)])
  (fun (s : Nat) hp => s ≤ max u (a + 1) ∧ u ≤ s ∧ St B h0 hp (finR p A n c s b :: F))
  u (.cons rfl (.cons rfl (.nil _))) ⟨by omega, Nat.le_refl _, st0⟩ ?_
 clear st0
 rintro s hp ⟨hs1, hs2, st⟩
 obtain ⟨v, m, st⟩ := St.fin.1 st
 obtain ⟨Ap, np, cp, rfl, hlp, _⟩ := st.row 0 rfl
 rw [List.length_map, prevs_length, Nat.mul_one] at hlp
 refine X_seq (X_seq (X_reg (XV rfl rfl rfl (XR_a (op_nilCheck rfl) rfl rfl ?_))))
 first | refine XR_a (op_field0 rfl rfl) rfl rfl ?_ | refine XR_a (op_fieldn rfl rfl) rfl rfl ?_
 refine XR_a (op_ld (st.cell 2 (i := 3) rfl rfl) rfl rfl rfl) rfl rfl ?_
 refine XV rfl rfl rfl ?_
 refine XR_a (op_leq rfl rfl) rfl rfl ?_
 refine XR_nil ?_
 refine X_if rfl (fun h => ?_) (fun h => ?_)
 ·refine X_skip (X_seq (X_block (X_seq ?_)))
  refine X_draw (butAt [(8, .grow)]) (by kernel_rfl) (by kernel_rfl) ?_
  refine XV rfl rfl rfl (XR_a (op_nilCheck rfl) rfl rfl ?_)
  first | refine XR_a (op_field0 rfl rfl) rfl rfl ?_ | refine XR_a (op_fieldn rfl rfl) rfl rfl ?_
  refine XR_a (op_ld (st.cell 2 (i := 0) rfl rfl) rfl rfl rfl) rfl rfl ?_
  refine XV rfl rfl rfl (XR_a (op_nilCheck rfl) rfl rfl ?_)
  first | refine XR_a (op_field0 rfl rfl) rfl rfl ?_ | refine XR_a (op_fieldn rfl rfl) rfl rfl ?_
  refine XR_a (op_ld (st.cell 2 (i := 3) rfl rfl) rfl rfl rfl) rfl rfl ?_
  refine XR_ga (opl_call (mkey_spec (hrB _ st.low) hl hn (by omega)) rfl (by kernel_rfl)) rfl rfl rfl (fun _ _ h => h.2 ▸ Low.refl _ _) ?_
  rintro _ _ ⟨rfl, rfl⟩
  refine XA rfl rfl rfl (XR_nil (X_seq (X_reg (XV rfl rfl rfl (XR_a (op_nilCheck rfl) rfl rfl ?_)))))
  first | refine XR_a (op_field0 rfl rfl) rfl rfl ?_ | refine XR_a (op_fieldn rfl rfl) rfl rfl ?_
  refine XR_a (op_ld (st.cell 2 (i := 1) rfl rfl) rfl rfl rfl) rfl rfl ?_
  refine XV rfl rfl rfl ?_
  refine XR_wa (opl_mapAsk st 1 rfl rfl rfl (by kernel_rfl)) rfl rfl rfl ?_
  rintro _ _ ⟨rfl, rfl⟩
  have hlf : lastM b s (keyM b s) = prevM b s := rfl
  rw [lastF_at, hlf]
  obtain ⟨q, hq⟩ : ∃ q, prevM b s = q := ⟨_, rfl⟩
  rw [hq]
  by_cases hq1 : q.isSome = true
  ·obtain ⟨q', rfl⟩ := Option.isSome_iff_exists.1 hq1
   refine XR_as (.tuple #[nV q', .bool true]) rfl ?_
   refine XV rfl rfl rfl (XR_a (op_extract rfl rfl) rfl rfl (XR_a (op_extract rfl rfl) rfl rfl (XA rfl rfl rfl (XA rfl rfl rfl (XR_nil (X_seq (X_seq (X_reg (XV rfl rfl rfl ?_)))))))))
   refine XR_a (op_not rfl) rfl rfl ?_
   refine XR_as (.bool false) rfl ?_
   refine XR_nil (X_else rfl (X_skip (X_seq (X_reg (XV rfl rfl rfl (XV rfl rfl rfl (XR_a (op_nilCheck rfl) rfl rfl ?_)))))))
   first | refine XR_a (op_field0 rfl rfl) rfl rfl ?_ | refine XR_a (op_fieldn rfl rfl) rfl rfl ?_
   refine XR_a (op_ld (st.cell 2 (i := 2) rfl rfl) rfl rfl rfl) rfl rfl ?_
   refine XV rfl rfl rfl ?_
   refine XR_wa (opl_var1 (v := iV (optI (some q'))) rfl rfl rfl) rfl rfl rfl ?_
   rintro _ hp ⟨Aq, rfl, hxq, hrq⟩
   replace st := st.ext hxq
   refine XR_wa (opl_append st 0 rfl (hrq) (rfl) (one_iV [optI _]) (by simp [prevs_length]; omega) rfl rfl rfl rfl rfl rfl rfl) rfl rfl rfl fun v hp st => ?_
   simp only [List.set_cons_zero, List.set_cons_succ] at st
   rw [← hq, show (prevs b s).map iV ++ [iV (optI (prevM b s))] = (prevs b (s + 1)).map iV by rw [prevs_succ, List.map_append]; rfl] at st
   obtain ⟨A7, n7, c7, rfl, _⟩ := st.row 0 rfl
   refine XR_a (op_nilCheck rfl) rfl rfl ?_
   first | refine XR_a (op_field0 rfl rfl) rfl rfl ?_ | refine XR_a (op_fieldn rfl rfl) rfl rfl ?_
   refine XR_wn (opl_store_pt st 2 rfl rfl rfl rfl rfl (rfl)) rfl rfl fun _ hp st => ?_
   simp only [List.set_cons_zero, List.set_cons_succ] at st
   refine XR_nil ?_
   refine X_draw byKind (by kernel_rfl) (by kernel_rfl) ?_
   refine XV rfl rfl rfl (XR_a (op_nilCheck rfl) rfl rfl ?_)
   first | refine XR_a (op_field0 rfl rfl) rfl rfl ?_ | refine XR_a (op_fieldn rfl rfl) rfl rfl ?_
   refine XR_a (op_ld (st.cell 2 (i := 1) rfl rfl) rfl rfl rfl) rfl rfl ?_
   refine XV rfl rfl rfl (XV rfl rfl rfl (XR_a (op_nilCheck rfl) rfl rfl ?_))
   first | refine XR_a (op_field0 rfl rfl) rfl rfl ?_ | refine XR_a (op_fieldn rfl rfl) rfl rfl ?_
   refine XR_a (op_ld (st.cell 2 (i := 3) rfl rfl) rfl rfl rfl) rfl rfl ?_
   refine XR_wn (opl_mapPut st 1 rfl rfl rfl rfl (by kernel_rfl)) rfl rfl fun _ hp st => ?_
   simp only [List.set_cons_zero, List.set_cons_succ] at st
   rw [← lastF_succ] at st
   refine XR_nil (X_blk (X_reg (XV rfl rfl rfl (XR_a (op_nilCheck rfl) rfl rfl ?_))))
   first | refine XR_a (op_field0 rfl rfl) rfl rfl ?_ | refine XR_a (op_fieldn rfl rfl) rfl rfl ?_
   refine XR_a (op_ld (st.cell 2 (i := 3) rfl rfl) rfl rfl rfl) rfl rfl ?_
   first | refine XR_a (op_addN (n := 1) rfl rfl (by simp only [inK]; omega)) rfl rfl ?_ | refine XR_a (op_addI rfl rfl (by simp only [inK]; omega)) rfl rfl ?_ | refine XR_a (op_add rfl rfl) rfl rfl ?_
   refine XR_a (op_nilCheck rfl) rfl rfl ?_
   first | refine XR_a (op_field0 rfl rfl) rfl rfl ?_ | refine XR_a (op_fieldn rfl rfl) rfl rfl ?_
   refine XR_wn (opl_store_pt st 2 rfl rfl rfl rfl rfl (rfl)) rfl rfl fun _ hp st => ?_
   simp only [List.set_cons_zero, List.set_cons_succ] at st
   refine XR_nil ?_
   exact X_again (s + 1) (.cons rfl (.cons rfl (.nil _))) ⟨by omega, by omega, St.fin.2 ⟨_, _, st⟩⟩ (by omega)
  ·obtain rfl : q = none := by simpa using hq1
   refine XR_as (.tuple #[.int .i64 0, .bool false]) rfl ?_
   refine XV rfl rfl rfl (XR_a (op_extract rfl rfl) rfl rfl (XR_a (op_extract rfl rfl) rfl rfl (XA rfl rfl rfl (XA rfl rfl rfl (XR_nil (X_seq (X_seq (X_reg (XV rfl rfl rfl ?_)))))))))
   refine XR_a (op_not rfl) rfl rfl ?_
   refine XR_as (.bool true) rfl ?_
   refine XR_nil (X_then rfl (X_reg (XA rfl rfl rfl (XR_nil (X_seq (X_reg (XV rfl rfl rfl (XV rfl rfl rfl (XR_a (op_nilCheck rfl) rfl rfl ?_)))))))))
   first | refine XR_a (op_field0 rfl rfl) rfl rfl ?_ | refine XR_a (op_fieldn rfl rfl) rfl rfl ?_
   refine XR_a (op_ld (st.cell 2 (i := 2) rfl rfl) rfl rfl rfl) rfl rfl ?_
   refine XV rfl rfl rfl ?_
   refine XR_wa (opl_var1 (v := iV (optI none)) rfl rfl rfl) rfl rfl rfl ?_
   rintro _ hp ⟨Aq, rfl, hxq, hrq⟩
   replace st := st.ext hxq
   refine XR_wa (opl_append st 0 rfl (hrq) (rfl) (one_iV [optI _]) (by simp [prevs_length]; omega) rfl rfl rfl rfl rfl rfl rfl) rfl rfl rfl fun v hp st => ?_
   simp only [List.set_cons_zero, List.set_cons_succ] at st
   rw [← hq, show (prevs b s).map iV ++ [iV (optI (prevM b s))] = (prevs b (s + 1)).map iV by rw [prevs_succ, List.map_append]; rfl] at st
   obtain ⟨A7, n7, c7, rfl, _⟩ := st.row 0 rfl
   refine XR_a (op_nilCheck rfl) rfl rfl ?_
   first | refine XR_a (op_field0 rfl rfl) rfl rfl ?_ | refine XR_a (op_fieldn rfl rfl) rfl rfl ?_
   refine XR_wn (opl_store_pt st 2 rfl rfl rfl rfl rfl (rfl)) rfl rfl fun _ hp st => ?_
   simp only [List.set_cons_zero, List.set_cons_succ] at st
   refine XR_nil ?_
   refine X_draw byKind (by kernel_rfl) (by kernel_rfl) ?_
   refine XV rfl rfl rfl (XR_a (op_nilCheck rfl) rfl rfl ?_)
   first | refine XR_a (op_field0 rfl rfl) rfl rfl ?_ | refine XR_a (op_fieldn rfl rfl) rfl rfl ?_
   refine XR_a (op_ld (st.cell 2 (i := 1) rfl rfl) rfl rfl rfl) rfl rfl ?_
   refine XV rfl rfl rfl (XV rfl rfl rfl (XR_a (op_nilCheck rfl) rfl rfl ?_))
   first | refine XR_a (op_field0 rfl rfl) rfl rfl ?_ | refine XR_a (op_fieldn rfl rfl) rfl rfl ?_
   refine XR_a (op_ld (st.cell 2 (i := 3) rfl rfl) rfl rfl rfl) rfl rfl ?_
   refine XR_wn (opl_mapPut st 1 rfl rfl rfl rfl (by kernel_rfl)) rfl rfl fun _ hp st => ?_
   simp only [List.set_cons_zero, List.set_cons_succ] at st
   rw [← lastF_succ] at st
   refine XR_nil (X_blk (X_reg (XV rfl rfl rfl (XR_a (op_nilCheck rfl) rfl rfl ?_))))
   first | refine XR_a (op_field0 rfl rfl) rfl rfl ?_ | refine XR_a (op_fieldn rfl rfl) rfl rfl ?_
   refine XR_a (op_ld (st.cell 2 (i := 3) rfl rfl) rfl rfl rfl) rfl rfl ?_
   first | refine XR_a (op_addN (n := 1) rfl rfl (by simp only [inK]; omega)) rfl rfl ?_ | refine XR_a (op_addI rfl rfl (by simp only [inK]; omega)) rfl rfl ?_ | refine XR_a (op_add rfl rfl) rfl rfl ?_
   refine XR_a (op_nilCheck rfl) rfl rfl ?_
   first | refine XR_a (op_field0 rfl rfl) rfl rfl ?_ | refine XR_a (op_fieldn rfl rfl) rfl rfl ?_
   refine XR_wn (opl_store_pt st 2 rfl rfl rfl rfl rfl (rfl)) rfl rfl fun _ hp st => ?_
   simp only [List.set_cons_zero, List.set_cons_succ] at st
   refine XR_nil ?_
   exact X_again (s + 1) (.cons rfl (.cons rfl (.nil _))) ⟨by omega, by omega, St.fin.2 ⟨_, _, st⟩⟩ (by omega)
 ·refine X_exit rfl ?_
  refine X_end .nil ?_
  have he : s = max u (a + 1) := by omega
  rw [← he]
  exact St.fin.2 ⟨_, _, st⟩
theorem mchain_spec {p a : Nat} {h0 : Heap} : Ret Tryz.prog 167 [.pointer (some ⟨p, 0, none⟩), nV a] h0 fun v h' => ∃ p1 p2, v = .func (.func 175) #[] #[.pointer (some ⟨p1, 0, none⟩), .pointer (some ⟨p2, 0, none⟩)] ∧ St h0.size h0 h' [pt p2 3 [nV a], pt p1 217 [.pointer (some ⟨p, 0, none⟩)]] := by
 refine ret_of_X Tryz.func167 rfl rfl fun w0 hw0 => ?_
 simp only [argE, Nat.zero_add, Nat.reduceAdd]
 have st := St.start h0
 refine X_seq (X_reg ?_)
 refine XR_wa (opl_bx rfl rfl) rfl rfl rfl ?_
 rintro _ hp ⟨p1, rfl, hnew⟩
 replace st := st.new hnew
 refine XR_wa (opl_bx rfl rfl) rfl rfl rfl ?_
 rintro _ hp ⟨p2, rfl, hnew⟩
 replace st := st.new hnew
 refine XA rfl rfl rfl (XR_nil (X_seq (X_reg ?_)))
 refine XR_a (op_mkFunc rfl) rfl rfl ?_
 refine XA rfl rfl rfl (XR_nil ?_)
 refine X_ret (.cons (.tmp rfl) .nil) ?_
 exact ⟨_, _, rfl, st⟩
theorem mchain_iter {B y p1 p2 p n c u a : Nat} {A : Option Addr} {b : List UInt8} {F : List Res} {h0 : Heap} (JR JD : List Nat → List Res)
  (st0 : St B h0 h0 (finR p A n c u b :: pt p1 217 [.pointer (some ⟨p, 0, none⟩)] :: pt p2 3 [nV a] :: (JR [] ++ F))) (hrB : ∀ h', Low B h0 h' → Rd h' A (b.map byteV)) (hl : b.length = n) (hn : n ≤ 1099511627776) (hu : u ≤ n)
  (hround : ∀ (s : List Nat) (d : Nat) (r : List Nat) (u' : Nat) (F' : List Res) (h : Heap), Low B h0 h → s ++ d :: r = cands b a → 1 ≤ d → d ≤ a → a + 3 ≤ n → St B h h (JR s ++ (finR p A n c u' b :: F')) →
   RRet Tryz.prog y [nV d] h fun v h' => ∃ t, v = .bool t ∧ (t = true → St B h h' (JR (s ++ [d]) ++ (finR p A n c u' b :: F'))) ∧ (t = false → St B h h' (JD (s ++ [d]) ++ (finR p A n c u' b :: F')))) :
  Ret Tryz.prog 175 [.func (.yield y) #[] #[], .pointer (some ⟨p1, 0, none⟩), .pointer (some ⟨p2, 0, none⟩)] h0
   fun _ h' => ∃ u' P, u' ≤ n ∧ (P = JR (cands b a) ∨ ∃ s d r, s ++ d :: r = cands b a ∧ P = JD (s ++ [d])) ∧ St B h0 h' (finR p A n c u' b :: pt p1 217 [.pointer (some ⟨p, 0, none⟩)] :: pt p2 3 [nV a] :: (P ++ F)) := by
 refine ret_of_X Tryz.func175 rfl rfl fun w0 hw0 => ?_
 simp only [argE, Nat.zero_add, Nat.reduceAdd]
 have st := st0
 refine X_seq (X_seq (X_reg ?_))
 refine XR_a (op_ld (st.cell 1 (i := 0) rfl rfl) rfl rfl rfl) rfl rfl ?_
 refine XR_a (op_ld (st.cell 2 (i := 0) rfl rfl) rfl rfl rfl) rfl rfl ?_
 refine XR_wa (opl_call (mwhole_spec st hn) rfl (by kernel_rfl)) rfl rfl rfl ?_
 rintro _ _ ⟨rfl, rfl⟩
 first | refine XR_a (op_notd rfl) rfl rfl ?_ | refine XR_a (op_not rfl) rfl rfl ?_
 refine XR_nil ?_
 refine X_if rfl (fun h => ?_) (fun h => ?_)
 ·have hc0 : cands b a = [] := candN_short (by omega) a
  refine X_ret .nil ?_
  rw [hc0]
  exact ⟨u, _, hu, .inl rfl, st⟩
 ·have ha : a + 3 ≤ n := by omega
  refine X_skip (X_seq (X_reg ?_))
  refine XR_a (op_ld (st.cell 1 (i := 0) rfl rfl) rfl rfl rfl) rfl rfl ?_
  refine XR_a (op_ld (st.cell 2 (i := 0) rfl rfl) rfl rfl rfl) rfl rfl ?_
  refine XR_wa (opl_call (mlearn_spec st.here (fun h' hh => hrB h' (st.low.trans hh)) hl hn ha hu) rfl (by kernel_rfl)) rfl rfl rfl ?_
  rintro _ hp2 st2
  replace st := st.trans st2
  clear st2 st0
  obtain ⟨u', hu'⟩ : ∃ u', max u (a + 1) = u' := ⟨_, rfl⟩
  rw [hu'] at st
  have hau : a < u' := by omega
  have hun : u' ≤ n := by omega
  obtain ⟨v5, m5, sto⟩ := St.fin.1 st
  obtain ⟨A5, n5, c5, rfl, hl5, _, _, hr5⟩ := sto.row 0 rfl
  rw [List.length_map, prevs_length, Nat.mul_one] at hl5
  obtain ⟨g5, o5, rfl, hc5⟩ := hr5.at_ (by rw [List.length_map, prevs_length]; omega)
  refine XR_nil (X_seq ?_)
  refine X_draw byKind (by kernel_rfl) (by kernel_rfl) ?_
  refine XR_a (op_ld (st.cell 1 (i := 0) rfl rfl) rfl rfl rfl) rfl rfl ?_
  refine XR_a (op_nilCheck rfl) rfl rfl ?_
  first | refine XR_a (op_field0 rfl rfl) rfl rfl ?_ | refine XR_a (op_fieldn rfl rfl) rfl rfl ?_
  refine XR_a (op_ld (sto.cell 2 (i := 2) rfl rfl) rfl rfl rfl) rfl rfl ?_
  refine XR_a (op_ld (st.cell 2 (i := 0) rfl rfl) rfl rfl rfl) rfl rfl ?_
  refine XR_a (op_index1 (i := a) rfl rfl rfl (by omega)) rfl rfl ?_
  refine XR_a (op_ld (hc5 a (iV (optI (prevM b a))) (by rw [List.getElem?_map, prevs_get hau]; rfl)) rfl rfl rfl) rfl rfl ?_
  refine XA rfl rfl rfl (XR_nil (X_block ?_))
  refine X_loop (fun s => match s.2 with | none => 0 | some q => q + 1) (fun s => [(0, .func (.yield y) #[] #[]), (1, .pointer (some ⟨p1, 0, none⟩)), (2, .pointer (some ⟨p2, 0, none⟩)), (4, iV (optI s.2))])
   (fun (s : List Nat × Option Nat) hp => s.1 ++ tellM a (walkM b a s.2) = cands b a ∧ (∀ q, s.2 = some q → q < a ∧ keyM b q = keyM b a) ∧ St B h0 hp (finR p A n c u' b :: pt p1 217 [.pointer (some ⟨p, 0, none⟩)] :: pt p2 3 [nV a] :: (JR s.1 ++ F)))
   ([], prevM b a) (.cons rfl (.cons rfl (.cons rfl (.cons rfl (.nil _))))) ⟨by rw [cands_tell (by omega)]; rfl, fun q hq => lastM_lt hq, st⟩ ?_
  clear st sto hr5 hc5
  rintro ⟨s, q⟩ hp ⟨hs, hq, st⟩
  simp only at hs hq st ⊢
  refine X_seq (X_seq (X_reg (XV rfl rfl rfl ?_)))
  refine XR_a (op_geq rfl rfl) rfl rfl ?_
  by_cases hq1 : q.isSome = true
  ·obtain ⟨q', rfl⟩ := Option.isSome_iff_exists.1 hq1
   obtain ⟨hqa, hqk⟩ := hq q' rfl
   refine XR_as (.bool true) (congrArg Value.bool (decide_eq_true (by simp only [optI]; omega))) ?_
   refine XV rfl rfl rfl ?_
   refine XR_a (op_ld (st.cell 2 (i := 0) rfl rfl) rfl rfl rfl) rfl rfl ?_
   refine XV rfl rfl rfl ?_
   refine XR_a (op_subN (m := a) (n := q') rfl rfl (by omega) (by simp only [inK]; omega)) rfl rfl ?_
   refine XR_a (op_leq rfl rfl) rfl rfl ?_
   refine XR_a (op_pick_t rfl rfl) rfl rfl (XR_nil ?_)
   refine X_if rfl (fun h => ?_) (fun h => ?_)
   ·have hlen := keyM_len (b := b) (a := a) (d := a - q') (by omega) (by omega) (by omega) (by omega)
    rw [walk_next hqk, tellM_cons (by omega)] at hs
    refine X_skip (X_seq (X_block (X_seq (X_reg (XV rfl rfl rfl ?_)))))
    refine XR_a (op_ld (st.cell 2 (i := 0) rfl rfl) rfl rfl rfl) rfl rfl ?_
    refine XV rfl rfl rfl ?_
    refine XR_a (op_subN (m := a) (n := q') rfl rfl (by omega) (by simp only [inK]; omega)) rfl rfl ?_
    refine XR_ya (opy_yield rfl (hround s (a - q') (tellM a (walkM b a (prevM b q'))) u' (pt p1 217 [.pointer (some ⟨p, 0, none⟩)] :: pt p2 3 [nV a] :: F) _ st.low hs (by omega) (by omega) ha (st.here.perm (List.perm_append_comm_assoc [_, _, _] _ _))) rfl) rfl rfl rfl ?_
    rintro _ hp5 ⟨t, rfl, hT, hF⟩
    first | refine XR_a (op_notd rfl) rfl rfl ?_ | refine XR_a (op_not rfl) rfl rfl ?_
    refine XR_as (.bool (decide (t = false))) (congrArg Value.bool (by cases t <;> rfl)) ?_
    refine XR_nil ?_
    refine X_if rfl (fun h => ?_) (fun h => ?_)
    ·refine X_ret .nil ?_
     have hb : t = false := h
     exact ⟨u', _, hun, .inr ⟨s, a - q', _, hs, rfl⟩, st.trans ((hF hb).perm (List.perm_append_comm_assoc _ [_, _, _] _))⟩
    ·have hb : t = true := by cases t <;> simp at h ⊢
     replace st := st.trans ((hT hb).perm (List.perm_append_comm_assoc _ [_, _, _] _))
     obtain ⟨v6, m6, sto⟩ := St.fin.1 st
     obtain ⟨A6, n6, c6, rfl, hl6, _, _, hr6⟩ := sto.row 0 rfl
     rw [List.length_map, prevs_length, Nat.mul_one] at hl6
     obtain ⟨g6, o6, rfl, hc6⟩ := hr6.at_ (by rw [List.length_map, prevs_length]; omega)
     refine X_skip (X_blk (X_reg ?_))
     refine XR_a (op_ld (st.cell 1 (i := 0) rfl rfl) rfl rfl rfl) rfl rfl ?_
     refine XR_a (op_nilCheck rfl) rfl rfl ?_
     first | refine XR_a (op_field0 rfl rfl) rfl rfl ?_ | refine XR_a (op_fieldn rfl rfl) rfl rfl ?_
     refine XR_a (op_ld (sto.cell 2 (i := 2) rfl rfl) rfl rfl rfl) rfl rfl ?_
     refine XV rfl rfl rfl ?_
     refine XR_a (op_index1 (i := q') rfl rfl rfl (by omega)) rfl rfl ?_
     refine XR_a (op_ld (hc6 q' (iV (optI (prevM b q'))) (by rw [List.getElem?_map, prevs_get (by omega)]; rfl)) rfl rfl rfl) rfl rfl ?_
     refine XA rfl rfl rfl (XR_nil ?_)
     refine X_again (s ++ [a - q'], prevM b q') (.cons rfl (.cons rfl (.cons rfl (.cons rfl (.nil _))))) ⟨by simp only; rw [List.append_assoc]; exact hs, fun r hr => ?_, st⟩ ?_
     ·obtain ⟨g1, g2⟩ := lastM_lt hr
      exact ⟨by omega, g2.trans hqk⟩
     ·simp only
      cases hr : prevM b q' with
      | none => simp
      | some r => have := (lastM_lt hr).1; simp only; omega
   ·rw [walk_next hqk, tellM_stop (by omega), List.append_nil] at hs
    refine X_exit rfl ?_
    refine X_end .nil ?_
    exact ⟨u', _, hun, .inl rfl, by rw [← hs]; exact st⟩
  ·obtain rfl : q = none := by simpa using hq1
   refine XR_as (.bool false) (congrArg Value.bool (decide_eq_false (by simp only [optI]; omega))) ?_
   refine XV rfl rfl rfl (XR_no rfl rfl (XR_no rfl rfl (XR_no rfl rfl (XR_no rfl rfl (XR_a (op_pick_f rfl rfl) rfl rfl (XR_nil (X_else rfl (X_exit rfl ?_))))))))
   refine X_end .nil ?_
   rw [walkM, show tellM a [] = [] from rfl, List.append_nil] at hs
   exact ⟨u', _, hun, .inl rfl, by rw [← hs]; exact st⟩
end Go.Bn
end

section
set_option linter.unusedVariables false
set_option linter.unusedSimpArgs false
set_option maxHeartbeats 4000000
set_option maxRecDepth 20000
namespace Go.Bn
open Go Proofs
def foldP (f : Nat → Nat) (s : List Nat) : Nat × Nat := pickM f s.length s (0, 0)
theorem pickM_app (f : Nat → Nat) : ∀ (s : List Nat) (k : Nat) (r : List Nat) (st : Nat × Nat), s.length ≤ k → pickM f k (s ++ r) st = pickM f (k - s.length) r (pickM f s.length s st)
 | [], k, r, st, _ => by rw [List.nil_append]; rfl
 | d :: s, 0, r, st, h => by simp at h
 | d :: s, k + 1, r, st, h => by
  rw [List.cons_append, pickM, pickM_app f s k r _ (by simpa using h), List.length_cons, pickM, Nat.add_sub_add_right]
theorem foldP_snoc (f : Nat → Nat) (s : List Nat) (d : Nat) : foldP f (s ++ [d]) = if (foldP f s).1 < f d then (f d, d) else foldP f s := by
 unfold foldP
 rw [pickM_app f s _ [d] _ (by simp), List.length_append, List.length_singleton, Nat.add_sub_cancel_left]
 rfl
theorem foldP_all {f : Nat → Nat} {s : List Nat} {k : Nat} (h : s.length ≤ k) : pickM f k s (0, 0) = foldP f s := by
 have := pickM_app f s k [] (0, 0) h
 rw [List.append_nil, pickM_nil] at this
 exact this
theorem RVc {P : Program} {hp : Heap} {E : Env} {a : Tmp} {t : TypeId} {p : Nat} {v : Value} (h : E.get a = some (.pointer (some ⟨p, 0, none⟩))) (ht : single P t = true) (hc : cellH hp ⟨p, 0, none⟩ = some v) : RV P hp E (.cell a t) v :=
 .cell h fun w hw => run_loadVar_single ht (by rw [hw]; exact hc)
theorem mfind_spec {B p n c u a dep : Nat} {A : Option Addr} {b : List UInt8} {F : List Res} {h0 : Heap} (st0 : St B h0 h0 (finR p A n c u b :: F)) (hrB : ∀ h', Low B h0 h' → Rd h' A (b.map byteV)) (hl : b.length = n) (hn : n ≤ 1099511627776) (hu : u ≤ n) (ha : a ≤ n) (hd : 1 ≤ dep ∧ dep ≤ 256) :
  Ret Tryz.prog 155 [.pointer (some ⟨p, 0, none⟩), nV a, nV dep] h0 fun v h' => v = retVal [nV (bestM b a dep).1, nV (bestM b a dep).2] ∧ ∃ u', u' ≤ n ∧ St B h0 h' (finR p A n c u' b :: F) := by
 obtain ⟨f, hf⟩ : ∃ f, lenM b a = f := ⟨_, rfl⟩
 have hfl : ∀ d, f d ≤ 258 := fun d => by rw [← hf]; exact lenM_le b a d
 have hbest : bestM b a dep = pickM f dep (cands b a) (0, 0) := by rw [← hf]; rfl
 refine ret_of_X Tryz.func155 rfl rfl fun w0 hw0 => ?_
 simp only [argE, Nat.zero_add, Nat.reduceAdd]
 have st := st0
 refine X_seq (X_reg ?_)
 refine XR_wa (opl_bx rfl rfl) rfl rfl rfl ?_
 rintro _ hp ⟨p3, rfl, hnew⟩
 replace st := st.new hnew
 refine XR_wa (opl_bx rfl rfl) rfl rfl rfl ?_
 rintro _ hp ⟨p4, rfl, hnew⟩
 replace st := st.new hnew
 refine XR_wa (opl_bx rfl rfl) rfl rfl rfl ?_
 rintro _ hp ⟨p5, rfl, hnew⟩
 replace st := st.new hnew
 refine XR_wa (opl_new rfl) rfl rfl rfl ?_
 rintro _ hp ⟨p6, rfl, hnew⟩
 replace st := st.new hnew
 refine XR_wa (opl_new rfl) rfl rfl rfl ?_
 rintro _ hp ⟨p7, rfl, hnew⟩
 replace st := st.new hnew
 refine XR_nil ?_
 refine X_scope rfl (fun _ _ _ hh => hh) ?_
 refine X_seq (X_seq (X_reg ?_))
 refine XR_a (op_ld (st.cell 4 (i := 0) rfl rfl) rfl rfl rfl) rfl rfl ?_
 refine XR_a (op_ptr_nil rfl rfl rfl) rfl rfl ?_
 refine XV rfl rfl rfl ?_
 refine XR_a (op_ld (st.cell 2 (i := 0) rfl rfl) rfl rfl rfl) rfl rfl ?_
 refine XR_a (op_lss rfl rfl) rfl rfl ?_
 refine XR_as (.bool false) (congrArg Value.bool (decide_eq_false (by omega))) ?_
 refine XR_a (op_pick_f rfl rfl) rfl rfl (XR_nil (X_else rfl (X_skip (X_seq ?_))))
 refine X_label ?_
 refine X_seq (X_seq (X_reg ?_))
 refine XR_a (op_ld (st.cell 4 (i := 0) rfl rfl) rfl rfl rfl) rfl rfl ?_
 refine XR_a (op_ld (st.cell 3 (i := 0) rfl rfl) rfl rfl rfl) rfl rfl ?_
 refine XR_wa (opl_call (mchain_spec) rfl (by kernel_rfl)) rfl rfl rfl ?_
 rintro _ hp6 ⟨q1, q2, rfl, st2⟩
 replace st := st.join st2
 simp only [List.cons_append, List.nil_append] at st
 clear st2
 refine XR_nil (X_block ?_)
 refine X_rangeS st rfl rfl (by kernel_rfl) fun fn tmps L y d hp1 hL hok hx1 st1 => ?_
 obtain ⟨JR, hJR⟩ : ∃ JR : List Nat → List Res, JR = fun s => [andR (s.length < dep) (pt p5 3 [nV (dep - s.length)]), pt p6 3 [nV (foldP f s).1], pt p7 3 [nV (foldP f s).2], pt p3 217 [.pointer (some ⟨p, 0, none⟩)], pt p4 3 [nV a], obj y (L .ready none)] := ⟨_, rfl⟩
 obtain ⟨JD, hJD⟩ : ∃ JD : List Nat → List Res, JD = fun s => [andR (bestM b a dep = foldP f s) (pt p6 3 [nV (foldP f s).1]), pt p7 3 [nV (foldP f s).2], obj y (L .done (some (.exit 0)))] := ⟨_, rfl⟩
 have st2 := St.reF [_, _, _, _, _, _, _, _, _, _] 10 (F := F) st1 [6, 5, 4, 8, 7, 0, 9, 3, 2, 1] (by decide)
 simp only [List.map_cons, List.map_nil, getR, List.cons_append, List.nil_append] at st2
 have st3 : St B h0 hp1 (finR p A n c u b :: pt q1 217 [.pointer (some ⟨p, 0, none⟩)] :: pt q2 3 [nV a] :: (JR [] ++ (obj d (.deferred (some [])) :: F))) := by
  have s3 := (St.and.2 ⟨(show ([] : List Nat).length < dep by simp; omega), st2⟩)
  rw [hJR]
  exact St.reF [_, _, _, _, _, _, _, _, _, _] 10 (F := F) s3 [6, 7, 8, 0, 1, 2, 3, 4, 5, 9] (by decide)
 refine Ret.mono (mchain_iter (y := y) JR JD st3.here (fun h' hh => hrB h' (st3.low.trans hh)) hl hn hu ?_) ?_
 ·intro s x r u' F' h hlow hcs hx1' hxa ha3 st4
  subst hL
  subst hJR
  subst hJD
  simp only [List.cons_append, List.nil_append] at st4
  obtain ⟨hsd, st4⟩ := St.and.1 st4
  refine rret_of_X (st4.obj_at 5 rfl) hok rfl rfl fun w0 hw0 => ?_
  simp only [penv]
  have hsn := foldP_snoc f s x
  have hb2 : bestM b a dep = pickM f (dep - (s.length + 1)) r (foldP f (s ++ [x])) := by
   rw [hbest, ← hcs, show s ++ x :: r = (s ++ [x]) ++ r by simp, pickM_app f (s ++ [x]) dep r _ (by simp; omega)]
   rw [List.length_append, List.length_singleton]; unfold foldP; rw [List.length_append, List.length_singleton]
  obtain ⟨R, hR⟩ : ∃ R, foldP f s = R := ⟨_, rfl⟩
  rw [hR] at st4 hsn
  refine X_reg (XA rfl rfl rfl (XR_nil ?_))
  refine X_begin (st4.obj_at 5 rfl) ?_
  have st := st4.loop 5 .busy none rfl
  simp only [List.set_cons_zero, List.set_cons_succ] at st
  obtain ⟨v6, m6, sto⟩ := St.fin.1 (st.perm (List.perm_middle (l₁ := [_, _, _, _, _, _])))
  refine X_block (X_seq (X_seq ?_))
  refine X_draw (butAt [(6, .grow)]) (by kernel_rfl) (by kernel_rfl) ?_
  refine XR_a (op_ld (st.cell 3 (i := 0) rfl rfl) rfl rfl rfl) rfl rfl ?_
  refine XR_a (op_nilCheck rfl) rfl rfl ?_
  first | refine XR_a (op_field0 rfl rfl) rfl rfl ?_ | refine XR_a (op_fieldn rfl rfl) rfl rfl ?_
  refine XR_a (op_ld (sto.cell 2 (i := 0) rfl rfl) rfl rfl rfl) rfl rfl ?_
  refine XR_a (op_ld (st.cell 4 (i := 0) rfl rfl) rfl rfl rfl) rfl rfl ?_
  refine XV rfl rfl rfl ?_
  refine XR_ga (opl_call (mlen_spec (hrB _ (st3.low.trans (hlow.trans st.low))) hl hn (by omega) (by omega)) rfl (by kernel_rfl)) rfl rfl rfl (fun _ _ h => h.2 ▸ Low.refl _ _) ?_
  rintro _ _ ⟨rfl, rfl⟩
  have hfx : lenM b a x = f x := by rw [← hf]
  rw [hfx]
  clear sto
  refine XA rfl rfl rfl (XR_nil (X_seq (X_reg (XV rfl rfl rfl ?_))))
  refine XR_a (op_ld (st.cell 1 (i := 0) rfl rfl) rfl rfl rfl) rfl rfl ?_
  refine XR_a (op_gtr rfl rfl) rfl rfl ?_
  refine XR_nil ?_
  refine X_if rfl (fun h => ?_) (fun h => ?_)
  ·rw [if_pos (by omega)] at hsn
   refine X_reg (XV rfl rfl rfl (XV rfl rfl rfl ?_))
   refine XR_wn (opl_store_pt st 1 rfl rfl rfl rfl rfl (rfl)) rfl rfl fun _ hp st => ?_
   simp only [List.set_cons_zero, List.set_cons_succ] at st
   refine XR_wn (opl_store_pt st 2 rfl rfl rfl rfl rfl (rfl)) rfl rfl fun _ hp st => ?_
   simp only [List.set_cons_zero, List.set_cons_succ] at st
   refine XR_nil (X_seq (X_reg ?_))
   refine XR_a (op_ld (st.cell 0 (i := 0) rfl rfl) rfl rfl rfl) rfl rfl ?_
   refine XR_a (op_subN (m := dep - s.length) (n := 1) rfl rfl (by omega) (by simp only [inK]; omega)) rfl rfl ?_
   refine XR_wn (opl_store_pt st 0 rfl rfl rfl rfl rfl (rfl)) rfl rfl fun _ hp st => ?_
   simp only [List.set_cons_zero, List.set_cons_succ] at st
   refine XR_nil (X_seq (X_reg ?_))
   refine XR_a (op_ld (st.cell 0 (i := 0) rfl rfl) rfl rfl rfl) rfl rfl ?_
   refine XR_a (op_eql rfl rfl) rfl rfl ?_
   refine XV rfl rfl rfl ?_
   refine XR_if 36 rfl (fun h => ?_) (fun h => ?_)
   ·refine XR_no rfl rfl (XR_no rfl rfl (XR_a (op_pick_t rfl rfl) rfl rfl (XR_nil (X_then rfl ?_))))
    have hbf : bestM b a dep = foldP f (s ++ [x]) := by rw [hb2, show dep - (s.length + 1) = 0 by omega]; rfl
    refine X_rnd_exit rfl (st.obj_at 5 rfl) ⟨false, rfl, fun hh => absurd hh Bool.false_ne_true, fun _ => ?_⟩
    replace st := st.loop 5 .done (some (.exit 0)) rfl
    simp only [List.set_cons_zero, List.set_cons_succ] at st
    have st4 := (St.reF [_, _, _, _, _, _] 6 st [0, 3, 4, 1, 2, 5] (by decide)).tail.tail.tail
    simp only [List.map_cons, List.map_nil, getR, List.cons_append, List.nil_append] at st4
    exact St.and.2 ⟨hbf, by rw [hsn]; exact st4⟩
   ·refine XR_a (op_ld (st.cell 1 (i := 0) rfl rfl) rfl rfl rfl) rfl rfl ?_
    refine XR_a (op_eql rfl rfl) rfl rfl ?_
    refine XR_a (op_pick_f rfl rfl) rfl rfl (XR_nil ?_)
    refine X_if rfl (fun h => ?_) (fun h => ?_)
    ·have hbf : bestM b a dep = foldP f (s ++ [x]) := by rw [hb2]; exact pickM_full hfl _ _ _ (by rw [hsn]; first | omega | (simp only; omega))
     refine X_rnd_exit rfl (st.obj_at 5 rfl) ⟨false, rfl, fun hh => absurd hh Bool.false_ne_true, fun _ => ?_⟩
     replace st := st.loop 5 .done (some (.exit 0)) rfl
     simp only [List.set_cons_zero, List.set_cons_succ] at st
     have st4 := (St.reF [_, _, _, _, _, _] 6 st [0, 3, 4, 1, 2, 5] (by decide)).tail.tail.tail
     simp only [List.map_cons, List.map_nil, getR, List.cons_append, List.nil_append] at st4
     exact St.and.2 ⟨hbf, by rw [hsn]; exact st4⟩
    ·refine X_skip (X_blk ?_)
     refine X_rnd (st.obj_at 5 rfl) ⟨true, rfl, fun _ => ?_, fun hh => absurd hh.symm Bool.false_ne_true⟩
     replace st := st.loop 5 .ready none rfl
     simp only [List.set_cons_zero, List.set_cons_succ] at st
     rw [show dep - s.length - 1 = dep - (s ++ [x]).length by rw [List.length_append, List.length_singleton]; omega] at st
     exact St.and.2 ⟨by rw [List.length_append, List.length_singleton]; omega, by rw [hsn]; exact st⟩
  ·rw [if_neg (by omega)] at hsn
   refine X_skip (X_seq (X_reg ?_))
   refine XR_a (op_ld (st.cell 0 (i := 0) rfl rfl) rfl rfl rfl) rfl rfl ?_
   refine XR_a (op_subN (m := dep - s.length) (n := 1) rfl rfl (by omega) (by simp only [inK]; omega)) rfl rfl ?_
   refine XR_wn (opl_store_pt st 0 rfl rfl rfl rfl rfl (rfl)) rfl rfl fun _ hp st => ?_
   simp only [List.set_cons_zero, List.set_cons_succ] at st
   refine XR_nil (X_seq (X_reg ?_))
   refine XR_a (op_ld (st.cell 0 (i := 0) rfl rfl) rfl rfl rfl) rfl rfl ?_
   refine XR_a (op_eql rfl rfl) rfl rfl ?_
   refine XV rfl rfl rfl ?_
   refine XR_if 36 rfl (fun h => ?_) (fun h => ?_)
   ·refine XR_no rfl rfl (XR_no rfl rfl (XR_a (op_pick_t rfl rfl) rfl rfl (XR_nil (X_then rfl ?_))))
    have hbf : bestM b a dep = foldP f (s ++ [x]) := by rw [hb2, show dep - (s.length + 1) = 0 by omega]; rfl
    refine X_rnd_exit rfl (st.obj_at 5 rfl) ⟨false, rfl, fun hh => absurd hh Bool.false_ne_true, fun _ => ?_⟩
    replace st := st.loop 5 .done (some (.exit 0)) rfl
    simp only [List.set_cons_zero, List.set_cons_succ] at st
    have st4 := (St.reF [_, _, _, _, _, _] 6 st [0, 3, 4, 1, 2, 5] (by decide)).tail.tail.tail
    simp only [List.map_cons, List.map_nil, getR, List.cons_append, List.nil_append] at st4
    exact St.and.2 ⟨hbf, by rw [hsn]; exact st4⟩
   ·refine XR_a (op_ld (st.cell 1 (i := 0) rfl rfl) rfl rfl rfl) rfl rfl ?_
    refine XR_a (op_eql rfl rfl) rfl rfl ?_
    refine XR_a (op_pick_f rfl rfl) rfl rfl (XR_nil ?_)
    refine X_if rfl (fun h => ?_) (fun h => ?_)
    ·have hbf : bestM b a dep = foldP f (s ++ [x]) := by rw [hb2]; exact pickM_full hfl _ _ _ (by rw [hsn]; first | omega | (simp only; omega))
     refine X_rnd_exit rfl (st.obj_at 5 rfl) ⟨false, rfl, fun hh => absurd hh Bool.false_ne_true, fun _ => ?_⟩
     replace st := st.loop 5 .done (some (.exit 0)) rfl
     simp only [List.set_cons_zero, List.set_cons_succ] at st
     have st4 := (St.reF [_, _, _, _, _, _] 6 st [0, 3, 4, 1, 2, 5] (by decide)).tail.tail.tail
     simp only [List.map_cons, List.map_nil, getR, List.cons_append, List.nil_append] at st4
     exact St.and.2 ⟨hbf, by rw [hsn]; exact st4⟩
    ·refine X_skip (X_blk ?_)
     refine X_rnd (st.obj_at 5 rfl) ⟨true, rfl, fun _ => ?_, fun hh => absurd hh.symm Bool.false_ne_true⟩
     replace st := st.loop 5 .ready none rfl
     simp only [List.set_cons_zero, List.set_cons_succ] at st
     rw [show dep - s.length - 1 = dep - (s ++ [x]).length by rw [List.length_append, List.length_singleton]; omega] at st
     exact St.and.2 ⟨by rw [List.length_append, List.length_singleton]; omega, by rw [hsn]; exact st⟩
 rintro _ h' ⟨u', P, hun, hP, st4⟩
 have st5 := st3.trans st4
 clear st4
 rcases hP.symm with ⟨s, x, r, hcs, rfl⟩ | rfl
 ·subst hJD
  simp only [List.cons_append, List.nil_append] at st5
  have st6 := St.reF [_, _, _, _, _, _, _] 7 (F := F) st5 [5, 1, 2, 3, 4, 6, 0] (by decide)
  simp only [List.map_cons, List.map_nil, getR, List.cons_append, List.nil_append] at st6
  refine .inr ⟨.exit 0, _, st6, fun hp3 st7 => ?_⟩
  obtain ⟨hbf, st⟩ := St.and.1 st7.tail.tail.tail
  refine X_exit rfl (X_seq ?_)
  refine X_draw_two byKind [0] 1 [2, 3] 2 [1, 3] (by kernel_rfl) (by kernel_rfl) rfl rfl rfl ?_
  refine XR_a (op_ld (st.cell 0 (i := 0) rfl rfl) rfl rfl rfl) rfl rfl ?_
  refine XR_nil ?_
  refine X_alt (σ := Unit) (fun _ => [(6, .pointer (some ⟨p6, 0, none⟩)), (7, .pointer (some ⟨p7, 0, none⟩))]) (fun _ hp => St B h0 hp (pt p6 3 [nV (foldP f (s ++ [x])).1] :: pt p7 3 [nV (foldP f (s ++ [x])).2] :: obj d (.deferred (some [])) :: finR p A n c u' b :: F)) ?_ ?_ ?_
  ·refine XR_a (op_ld (st.cell 1 (i := 0) rfl rfl) rfl rfl rfl) rfl rfl ?_
   refine XR_wn (opl_store_pt st 0 rfl rfl rfl rfl rfl (rfl)) rfl rfl fun _ hp st => ?_
   simp only [List.set_cons_zero, List.set_cons_succ] at st
   refine XR_wn (opl_store_pt st 1 rfl rfl rfl rfl rfl (rfl)) rfl rfl fun _ hp st => ?_
   simp only [List.set_cons_zero, List.set_cons_succ] at st
   refine XR_nil ?_
   exact X_meet () (.cons rfl (.cons rfl (.nil _))) st
  ·refine XR_wn (opl_store_pt st 0 rfl rfl rfl rfl rfl (rfl)) rfl rfl fun _ hp st => ?_
   simp only [List.set_cons_zero, List.set_cons_succ] at st
   refine XR_a (op_ld (st.cell 1 (i := 0) rfl rfl) rfl rfl rfl) rfl rfl ?_
   refine XR_wn (opl_store_pt st 1 rfl rfl rfl rfl rfl (rfl)) rfl rfl fun _ hp st => ?_
   simp only [List.set_cons_zero, List.set_cons_succ] at st
   refine XR_nil ?_
   exact X_meet () (.cons rfl (.cons rfl (.nil _))) st
  clear st
  rintro ⟨⟩ hp st
  have stp := st.put 2 (.deferred none) rfl
  refine X_retM (d := d) (.cons (RVc rfl rfl (stp.cell 0 (i := 0) rfl rfl)) (.cons (RVc rfl rfl (stp.cell 1 (i := 0) rfl rfl)) .nil)) ?_ (st.obj_at 2 rfl)
  rw [hbf]
  exact ⟨rfl, u', hun, stp.tail.tail.tail⟩
 subst hJR
 simp only [List.cons_append, List.nil_append] at st5
 have st6 := St.reF [_, _, _, _, _, _, _, _, _, _] 10 (F := F) st5 [8, 1, 2, 3, 4, 5, 6, 7, 9, 0] (by decide)
 simp only [List.map_cons, List.map_nil, getR, List.cons_append, List.nil_append] at st6
 refine .inl ⟨_, st6, fun hp3 st7 => ?_⟩
 clear st5 st6
 obtain ⟨hcd, st8⟩ := St.and.1 st7.tail.tail.tail
 have st := (St.reF [_, _, _, _, _, _, _] 7 (F := F) st8 [0, 3, 4, 1, 2, 5, 6] (by decide)).tail.tail.tail
 simp only [List.map_cons, List.map_nil, getR, List.cons_append, List.nil_append] at st
 rw [foldP_all (by omega)] at hbest
 refine X_blk (X_seq ?_)
 refine X_draw_two byKind [0] 1 [2, 3] 2 [1, 3] (by kernel_rfl) (by kernel_rfl) rfl rfl rfl ?_
 refine XR_a (op_ld (st.cell 0 (i := 0) rfl rfl) rfl rfl rfl) rfl rfl ?_
 refine XR_nil ?_
 refine X_alt (σ := Unit) (fun _ => [(6, .pointer (some ⟨p6, 0, none⟩)), (7, .pointer (some ⟨p7, 0, none⟩))]) (fun _ hp => St B h0 hp (pt p6 3 [nV (foldP f (cands b a)).1] :: pt p7 3 [nV (foldP f (cands b a)).2] :: obj d (.deferred (some [])) :: finR p A n c u' b :: F)) ?_ ?_ ?_
 ·refine XR_a (op_ld (st.cell 1 (i := 0) rfl rfl) rfl rfl rfl) rfl rfl ?_
  refine XR_wn (opl_store_pt st 0 rfl rfl rfl rfl rfl (rfl)) rfl rfl fun _ hp st => ?_
  simp only [List.set_cons_zero, List.set_cons_succ] at st
  refine XR_wn (opl_store_pt st 1 rfl rfl rfl rfl rfl (rfl)) rfl rfl fun _ hp st => ?_
  simp only [List.set_cons_zero, List.set_cons_succ] at st
  refine XR_nil ?_
  exact X_meet () (.cons rfl (.cons rfl (.nil _))) st
 ·refine XR_wn (opl_store_pt st 0 rfl rfl rfl rfl rfl (rfl)) rfl rfl fun _ hp st => ?_
  simp only [List.set_cons_zero, List.set_cons_succ] at st
  refine XR_a (op_ld (st.cell 1 (i := 0) rfl rfl) rfl rfl rfl) rfl rfl ?_
  refine XR_wn (opl_store_pt st 1 rfl rfl rfl rfl rfl (rfl)) rfl rfl fun _ hp st => ?_
  simp only [List.set_cons_zero, List.set_cons_succ] at st
  refine XR_nil ?_
  exact X_meet () (.cons rfl (.cons rfl (.nil _))) st
 clear st
 rintro ⟨⟩ hp st
 have stp := st.put 2 (.deferred none) rfl
 refine X_retM (d := d) (.cons (RVc rfl rfl (stp.cell 0 (i := 0) rfl rfl)) (.cons (RVc rfl rfl (stp.cell 1 (i := 0) rfl rfl)) .nil)) ?_ (st.obj_at 2 rfl)
 rw [hbest]
 exact ⟨rfl, u', hun, stp.tail.tail.tail⟩
end Go.Bn
end

section
set_option linter.unusedVariables false
set_option linter.unusedSimpArgs false
set_option maxHeartbeats 4000000
set_option maxRecDepth 20000
namespace Go.Bn
open Go Proofs
theorem tdepth_spec (lv : Int) (h0 : Heap) : Ret Tryz.prog 129 [.int .i64 lv] h0 fun v h' => v = nV (depthM lv) ∧ h0 = h' := by
 refine ret_of_X Tryz.func129 rfl rfl fun w0 hw0 => ?_
 simp only [argE, Nat.zero_add, Nat.reduceAdd]
 refine X_seq (X_reg (XA rfl rfl rfl (XR_nil (X_seq (X_seq (X_reg (XV rfl rfl rfl ?_)))))))
 refine XR_a (op_min2 rfl rfl) rfl rfl ?_
 refine XR_a (op_max2 rfl rfl) rfl rfl ?_
 refine XR_nil (X_block (X_seq (X_reg ?_)))
 refine XR_a (op_eql rfl rfl) rfl rfl ?_
 refine XA rfl rfl rfl (XR_nil ?_)
 refine X_if rfl (fun h => ?_) (fun h => ?_)
 ·refine X_seq (X_reg (XA rfl rfl rfl (XR_nil ?_)))
  refine X_ret (.cons (.tmp rfl) .nil) ?_
  exact ⟨by rw [show depthM lv = 1 by unfold depthM; rw [if_pos (by omega)]]; rfl, rfl⟩
 ·refine X_seq (X_reg ?_)
  refine XR_a (op_eql rfl rfl) rfl rfl ?_
  refine XA rfl rfl rfl (XR_nil ?_)
  refine X_if rfl (fun h => ?_) (fun h => ?_)
  ·refine X_seq (X_reg (XA rfl rfl rfl (XR_nil ?_)))
   refine X_ret (.cons (.tmp rfl) .nil) ?_
   exact ⟨by rw [show depthM lv = 4 by unfold depthM; rw [if_neg (by omega), if_pos (by omega)]]; rfl, rfl⟩
  ·refine X_seq (X_reg ?_)
   refine XR_a (op_eql rfl rfl) rfl rfl ?_
   refine XA rfl rfl rfl (XR_nil ?_)
   refine X_if rfl (fun h => ?_) (fun h => ?_)
   ·refine X_seq (X_reg (XA rfl rfl rfl (XR_nil ?_)))
    refine X_ret (.cons (.tmp rfl) .nil) ?_
    exact ⟨by rw [show depthM lv = 32 by unfold depthM; rw [if_neg (by omega), if_neg (by omega), if_pos (by omega)]]; rfl, rfl⟩
   ·refine X_skip (X_blk (X_seq (X_reg (XA rfl rfl rfl (XR_nil ?_)))))
    refine X_ret (.cons (.tmp rfl) .nil) ?_
    exact ⟨by rw [show depthM lv = 256 by unfold depthM; rw [if_neg (by omega), if_neg (by omega), if_neg (by omega)]]; rfl, rfl⟩
@[reducible] def spC (A : Option Addr) (n c pf : Nat) (lv : Int) : List Value := [.slice A n c, .pointer (some ⟨pf, 0, none⟩), nV (depthM lv), .bool (decide (2 ≤ lv))]
theorem tnext_spec {B ps pf n c u a : Nat} {lv : Int} {A : Option Addr} {b : List UInt8} {F : List Res} {h0 : Heap} (st0 : St B h0 h0 (pt ps 220 (spC A n c pf lv) :: finR pf A n c u b :: F)) (hrB : ∀ h', Low B h0 h' → Rd h' A (b.map byteV)) (hl : b.length = n) (hn : n ≤ 1099511627776) (hu : u ≤ n) (ha : a < n) :
  Ret Tryz.prog 130 [.pointer (some ⟨ps, 0, none⟩), nV a] h0 fun v h' => v = .agg (tokV (tokM b lv a)).toArray ∧ ∃ u', u' ≤ n ∧ St B h0 h' (pt ps 220 (spC A n c pf lv) :: finR pf A n c u' b :: F) := by
 obtain ⟨T, hT⟩ : ∃ T, tokM b lv a = T := ⟨_, rfl⟩
 rw [hT]
 unfold tokM at hT
 have hdm := depthM_ok lv
 obtain ⟨R, hR⟩ : ∃ R, bestM b a (depthM lv) = R := ⟨_, rfl⟩
 obtain ⟨R2, hR2⟩ : ∃ R, bestM b (a + 1) (depthM lv) = R := ⟨_, rfl⟩
 rw [hR, hR2, getD_at (by omega)] at hT
 refine ret_of_X Tryz.func130 rfl rfl fun w0 hw0 => ?_
 simp only [argE, Nat.zero_add, Nat.reduceAdd]
 have st := st0
 refine X_seq (X_reg ?_)
 refine XR_wa (opl_new rfl) rfl rfl rfl ?_
 rintro _ hp ⟨p4, rfl, hnew⟩
 replace st := st.new hnew
 replace st : St B h0 hp (pt p4 65 (tokV Tok.nil) :: pt ps 220 (spC A n c pf lv) :: finR pf A n c u b :: F) := st
 refine XR_nil (X_seq ?_)
 refine X_draw byKind (by kernel_rfl) (by kernel_rfl) ?_
 refine XV rfl rfl rfl (XR_a (op_nilCheck rfl) rfl rfl ?_)
 first | refine XR_a (op_field0 rfl rfl) rfl rfl ?_ | refine XR_a (op_fieldn rfl rfl) rfl rfl ?_
 refine XR_a (op_ld (st.cell 1 (i := 1) rfl rfl) rfl rfl rfl) rfl rfl ?_
 refine XV rfl rfl rfl (XV rfl rfl rfl (XR_a (op_nilCheck rfl) rfl rfl ?_))
 first | refine XR_a (op_field0 rfl rfl) rfl rfl ?_ | refine XR_a (op_fieldn rfl rfl) rfl rfl ?_
 refine XR_a (op_ld (st.cell 1 (i := 2) rfl rfl) rfl rfl rfl) rfl rfl ?_
 refine XR_wa (opl_call (mfind_spec (St.reF [_, _, _] 3 (F := F) st.here [2, 0, 1] (by decide)) (fun h' hh => hrB h' (st.low.trans hh)) hl hn hu (by omega) hdm) rfl (by kernel_rfl)) rfl rfl rfl ?_
 rintro _ hp4 ⟨rfl, u1, hu1, st2⟩
 replace st := st.trans (St.reF [_, _, _] 3 (F := F) st2 [1, 2, 0] (by decide))
 simp only [List.map_cons, List.map_nil, getR, List.cons_append, List.nil_append] at st
 clear st2
 rw [hR]
 refine XV rfl rfl rfl (XR_a (op_extract rfl rfl) rfl rfl (XR_a (op_extract rfl rfl) rfl rfl (XA rfl rfl rfl (XA rfl rfl rfl (XR_nil (X_seq (X_seq (X_reg (XV rfl rfl rfl ?_)))))))))
 refine XR_a (op_eql rfl rfl) rfl rfl ?_
 refine XR_nil ?_
 refine X_if rfl (fun h => ?_) (fun h => ?_)
 ·rw [if_pos (.inl (by omega))] at hT
  subst hT
  obtain ⟨g, o, rfl, hc⟩ := (hrB _ st.low).at_ (by rw [List.length_map]; omega)
  have hci := hc a _ (by rw [List.getElem?_map, List.getElem?_eq_getElem (by omega)]; rfl)
  refine X_seq (X_reg (XV rfl rfl rfl (XR_a (op_nilCheck rfl) rfl rfl ?_)))
  first | refine XR_a (op_field0 rfl rfl) rfl rfl ?_ | refine XR_a (op_fieldn rfl rfl) rfl rfl ?_
  refine XR_a (op_ld (st.cell 1 (i := 0) rfl rfl) rfl rfl rfl) rfl rfl ?_
  refine XV rfl rfl rfl ?_
  refine XR_a (op_index1 (i := a) rfl rfl rfl (by omega)) rfl rfl ?_
  refine XR_a (op_ld (hci) rfl rfl rfl) rfl rfl ?_
  refine XR_a (op_build (ps := [(0, .int .u8 ((b[a]'(by omega)).toNat : Int))]) (cs := (tokV ⟨((b[a]'(by omega)).toNat : Int), 0, 0⟩).toArray) rfl rfl) rfl rfl ?_
  refine XR_wn (opl_store_whole (us := tokV ⟨((b[a]'(by omega)).toNat : Int), 0, 0⟩) st 0 rfl rfl rfl rfl rfl (tokV_one _) rfl) rfl rfl fun _ hp st => ?_
  simp only [List.set_cons_zero, List.set_cons_succ] at st
  refine XR_nil ?_
  refine X_ret (.cons (RV_agg (vs := tokV _) rfl rfl rfl (st.cells 0 rfl)) .nil) ?_
  exact ⟨rfl, u1, hu1, st.tail⟩
 ·refine X_skip (X_seq (X_seq (X_reg (XV rfl rfl rfl (XR_a (op_nilCheck rfl) rfl rfl ?_)))))
  first | refine XR_a (op_field0 rfl rfl) rfl rfl ?_ | refine XR_a (op_fieldn rfl rfl) rfl rfl ?_
  refine XR_a (op_ld (st.cell 1 (i := 3) rfl rfl) rfl rfl rfl) rfl rfl ?_
  refine XV rfl rfl rfl ?_
  refine XR_if 36 rfl (fun h => ?_) (fun h => ?_)
  ·refine XV rfl rfl rfl ?_
   refine XR_a (op_lss rfl rfl) rfl rfl ?_
   refine XR_a (op_pick_t rfl rfl) rfl rfl (XR_nil ?_)
   refine X_if rfl (fun h => ?_) (fun h => ?_)
   ·refine X_seq ?_
    refine X_draw byKind (by kernel_rfl) (by kernel_rfl) ?_
    refine XV rfl rfl rfl (XR_a (op_nilCheck rfl) rfl rfl ?_)
    first | refine XR_a (op_field0 rfl rfl) rfl rfl ?_ | refine XR_a (op_fieldn rfl rfl) rfl rfl ?_
    refine XR_a (op_ld (st.cell 1 (i := 1) rfl rfl) rfl rfl rfl) rfl rfl ?_
    refine XV rfl rfl rfl ?_
    first | refine XR_a (op_addN (n := 1) rfl rfl (by simp only [inK]; omega)) rfl rfl ?_ | refine XR_a (op_addI rfl rfl (by simp only [inK]; omega)) rfl rfl ?_ | refine XR_a (op_add rfl rfl) rfl rfl ?_
    refine XV rfl rfl rfl (XR_a (op_nilCheck rfl) rfl rfl ?_)
    first | refine XR_a (op_field0 rfl rfl) rfl rfl ?_ | refine XR_a (op_fieldn rfl rfl) rfl rfl ?_
    refine XR_a (op_ld (st.cell 1 (i := 2) rfl rfl) rfl rfl rfl) rfl rfl ?_
    refine XR_wa (opl_call (mfind_spec (St.reF [_, _, _] 3 (F := F) st.here [2, 0, 1] (by decide)) (fun h' hh => hrB h' (st.low.trans hh)) hl hn hu1 (by omega) hdm) rfl (by kernel_rfl)) rfl rfl rfl ?_
    rintro _ hp5 ⟨rfl, u2, hu2, st2⟩
    replace st := st.trans (St.reF [_, _, _] 3 (F := F) st2 [1, 2, 0] (by decide))
    simp only [List.map_cons, List.map_nil, getR, List.cons_append, List.nil_append] at st
    clear st2
    rw [hR2]
    refine XV rfl rfl rfl (XR_a (op_extract rfl rfl) rfl rfl (XR_a (op_extract rfl rfl) rfl rfl (XA rfl rfl rfl (XA rfl rfl rfl (XR_nil (X_seq (X_reg (XV rfl rfl rfl (XV rfl rfl rfl ?_)))))))))
    refine XR_a (op_gtr rfl rfl) rfl rfl ?_
    refine XR_nil ?_
    refine X_if rfl (fun h => ?_) (fun h => ?_)
    ·rw [if_pos (.inr ⟨by omega, by omega, by omega⟩)] at hT
     subst hT
     obtain ⟨g, o, rfl, hc⟩ := (hrB _ st.low).at_ (by rw [List.length_map]; omega)
     have hci := hc a _ (by rw [List.getElem?_map, List.getElem?_eq_getElem (by omega)]; rfl)
     refine X_seq (X_reg (XV rfl rfl rfl (XR_a (op_nilCheck rfl) rfl rfl ?_)))
     first | refine XR_a (op_field0 rfl rfl) rfl rfl ?_ | refine XR_a (op_fieldn rfl rfl) rfl rfl ?_
     refine XR_a (op_ld (st.cell 1 (i := 0) rfl rfl) rfl rfl rfl) rfl rfl ?_
     refine XV rfl rfl rfl ?_
     refine XR_a (op_index1 (i := a) rfl rfl rfl (by omega)) rfl rfl ?_
     refine XR_a (op_ld (hci) rfl rfl rfl) rfl rfl ?_
     refine XR_a (op_build (ps := [(0, .int .u8 ((b[a]'(by omega)).toNat : Int))]) (cs := (tokV ⟨((b[a]'(by omega)).toNat : Int), 0, 0⟩).toArray) rfl rfl) rfl rfl ?_
     refine XR_wn (opl_store_whole (us := tokV ⟨((b[a]'(by omega)).toNat : Int), 0, 0⟩) st 0 rfl rfl rfl rfl rfl (tokV_one _) rfl) rfl rfl fun _ hp st => ?_
     simp only [List.set_cons_zero, List.set_cons_succ] at st
     refine XR_nil ?_
     refine X_ret (.cons (RV_agg (vs := tokV _) rfl rfl rfl (st.cells 0 rfl)) .nil) ?_
     exact ⟨rfl, u2, hu2, st.tail⟩
    ·rw [if_neg (by omega)] at hT
     subst hT
     refine X_skip (X_seq (X_reg (XV rfl rfl rfl (XV rfl rfl rfl ?_))))
     refine XR_a (op_build (ps := [(1, nV R.1), (2, nV R.2)]) (cs := (tokV ⟨0, (R.1 : Int), (R.2 : Int)⟩).toArray) rfl rfl) rfl rfl ?_
     refine XR_wn (opl_store_whole (us := tokV ⟨0, (R.1 : Int), (R.2 : Int)⟩) st 0 rfl rfl rfl rfl rfl (tokV_one _) rfl) rfl rfl fun _ hp st => ?_
     simp only [List.set_cons_zero, List.set_cons_succ] at st
     refine XR_nil ?_
     refine X_ret (.cons (RV_agg (vs := tokV _) rfl rfl rfl (st.cells 0 rfl)) .nil) ?_
     exact ⟨rfl, _, by assumption, st.tail⟩
   ·rw [if_neg (by omega)] at hT
    subst hT
    refine X_skip (X_seq (X_reg (XV rfl rfl rfl (XV rfl rfl rfl ?_))))
    refine XR_a (op_build (ps := [(1, nV R.1), (2, nV R.2)]) (cs := (tokV ⟨0, (R.1 : Int), (R.2 : Int)⟩).toArray) rfl rfl) rfl rfl ?_
    refine XR_wn (opl_store_whole (us := tokV ⟨0, (R.1 : Int), (R.2 : Int)⟩) st 0 rfl rfl rfl rfl rfl (tokV_one _) rfl) rfl rfl fun _ hp st => ?_
    simp only [List.set_cons_zero, List.set_cons_succ] at st
    refine XR_nil ?_
    refine X_ret (.cons (RV_agg (vs := tokV _) rfl rfl rfl (st.cells 0 rfl)) .nil) ?_
    exact ⟨rfl, _, by assumption, st.tail⟩
  ·rw [if_neg (by omega)] at hT
   subst hT
   refine XR_no rfl rfl (XR_no rfl rfl (XR_a (op_pick_f rfl rfl) rfl rfl (XR_nil (X_else rfl (X_skip (X_seq (X_reg (XV rfl rfl rfl (XV rfl rfl rfl ?_)))))))))
   refine XR_a (op_build (ps := [(1, nV R.1), (2, nV R.2)]) (cs := (tokV ⟨0, (R.1 : Int), (R.2 : Int)⟩).toArray) rfl rfl) rfl rfl ?_
   refine XR_wn (opl_store_whole (us := tokV ⟨0, (R.1 : Int), (R.2 : Int)⟩) st 0 rfl rfl rfl rfl rfl (tokV_one _) rfl) rfl rfl fun _ hp st => ?_
   simp only [List.set_cons_zero, List.set_cons_succ] at st
   refine XR_nil ?_
   refine X_ret (.cons (RV_agg (vs := tokV _) rfl rfl rfl (st.cells 0 rfl)) .nil) ?_
   exact ⟨rfl, _, by assumption, st.tail⟩
theorem teach_spec {n c : Nat} {lv : Int} {A : Option Addr} {h0 : Heap} : Ret Tryz.prog 96 [.slice A n c, .int .i64 lv] h0 fun v h' => ∃ p1 p2, v = .func (.func 127) #[] #[.pointer (some ⟨p1, 0, none⟩), .pointer (some ⟨p2, 0, none⟩)] ∧ St h0.size h0 h' [pt p2 3 [.int .i64 lv], pt p1 22 [.slice A n c]] := by
 refine ret_of_X Tryz.func96 rfl rfl fun w0 hw0 => ?_
 simp only [argE, Nat.zero_add, Nat.reduceAdd]
 have st := St.start h0
 refine X_seq (X_reg ?_)
 refine XR_wa (opl_bx rfl rfl) rfl rfl rfl ?_
 rintro _ hp ⟨p1, rfl, hnew⟩
 replace st := st.new hnew
 refine XR_wa (opl_bx rfl rfl) rfl rfl rfl ?_
 rintro _ hp ⟨p2, rfl, hnew⟩
 replace st := st.new hnew
 refine XA rfl rfl rfl (XR_nil (X_seq (X_reg ?_)))
 refine XR_a (op_mkFunc rfl) rfl rfl ?_
 refine XA rfl rfl rfl (XR_nil ?_)
 refine X_ret (.cons (.tmp rfl) .nil) ?_
 exact ⟨_, _, rfl, st⟩
theorem splitF_step {b : List UInt8} {lv : Int} {a : Nat} (ha : a < b.length) : splitF b lv (b.length - a) a = tokM b lv a :: splitF b lv (b.length - (a + (tokM b lv a).size)) (a + (tokM b lv a).size) := by
 obtain ⟨_, _, _, h4, _⟩ := tokM_ok (lv := lv) ha
 have hp := Tok.size_pos (tokM b lv a)
 obtain ⟨g, hg⟩ : ∃ g, b.length - a = g + 1 := ⟨b.length - a - 1, by omega⟩
 rw [hg, splitF, if_pos ha, splitF_fuel g (b.length - (a + (tokM b lv a).size)) _ h4 (by omega) (by omega)]
theorem splitF_end {b : List UInt8} {lv : Int} {f a : Nat} (ha : b.length ≤ a) : splitF b lv f a = [] := by
 cases f with
 | zero => rfl
 | succ f => rw [splitF, if_neg (by omega)]
theorem teach_iter {B y p1 p2 n c : Nat} {lv : Int} {A : Option Addr} {b : List UInt8} {F : List Res} {h0 : Heap} (JR : List Tok → List Res) (st0 : St B h0 h0 (pt p2 3 [.int .i64 lv] :: pt p1 22 [.slice A n c] :: (JR [] ++ F)))
  (hrB : ∀ h', Low B h0 h' → Rd h' A (b.map byteV)) (hl : b.length = n) (hn : n ≤ 1099511627776)
  (hround : ∀ (s : List Tok) (x : Tok) (r : List Tok) (F' : List Res) (h : Heap), Low B h0 h → s ++ x :: r = splitL b lv → St B h h (JR s ++ F') → RRet Tryz.prog y [.agg (tokV x).toArray] h fun u h' => u = .bool true ∧ St B h h' (JR (s ++ [x]) ++ F')) :
  Ret Tryz.prog 127 [.func (.yield y) #[] #[], .pointer (some ⟨p1, 0, none⟩), .pointer (some ⟨p2, 0, none⟩)] h0 fun _ h' => St B h0 h' (JR (splitL b lv) ++ F) := by
 refine ret_of_X Tryz.func127 rfl rfl fun w0 hw0 => ?_
 simp only [argE, Nat.zero_add, Nat.reduceAdd]
 have st := st0
 refine X_seq ?_
 refine X_draw_in (butAt [(2, .grow), (4, .grow)]) [0, 1, 3, 5, 6, 2, 4, 7, 8, 9] (by kernel_rfl) (by kernel_rfl) rfl ?_
 refine XR_a (op_ld (st.cell 1 (i := 0) rfl rfl) rfl rfl rfl) rfl rfl ?_
 refine XR_a (op_ld (st.cell 1 (i := 0) rfl rfl) rfl rfl rfl) rfl rfl ?_
 refine XR_a (op_ld (st.cell 0 (i := 0) rfl rfl) rfl rfl rfl) rfl rfl ?_
 refine XR_a (op_ld (st.cell 0 (i := 0) rfl rfl) rfl rfl rfl) rfl rfl ?_
 refine XR_a (op_geq rfl rfl) rfl rfl ?_
 refine XR_ga (opl_call (mnew_spec (b := b)) rfl (by kernel_rfl)) rfl rfl rfl (fun _ _ ⟨_, _, h⟩ => h.low) ?_
 rintro _ hp1 ⟨pf, rfl, st2⟩
 replace st := st.join st2
 simp only [List.cons_append, List.nil_append] at st
 clear st2
 refine XR_ga (opl_call (tdepth_spec lv _) rfl (by kernel_rfl)) rfl rfl rfl (fun _ _ h => h.2 ▸ Low.refl _ _) ?_
 rintro _ _ ⟨rfl, rfl⟩
 refine XR_a (op_build (ps := [(0, .slice A n c), (1, .pointer (some ⟨pf, 0, none⟩)), (2, nV (depthM lv)), (3, .bool (decide (2 ≤ lv)))]) (cs := (spC A n c pf lv).toArray) rfl rfl) rfl rfl ?_
 refine XR_ga (opl_bx (cs := spC A n c pf lv) rfl rfl) rfl rfl rfl (fun _ _ ⟨_, _, e⟩ => e.1) ?_
 rintro _ hp ⟨ps, rfl, hnew⟩
 replace st := st.new hnew
 refine XA rfl rfl rfl (XR_nil (X_seq (X_reg (XA rfl rfl rfl (XR_nil (X_block ?_))))))
 refine X_loop (fun s => n - s.1) (fun s => [(0, .func (.yield y) #[] #[]), (1, .pointer (some ⟨p1, 0, none⟩)), (2, .pointer (some ⟨p2, 0, none⟩)), (4, .pointer (some ⟨ps, 0, none⟩)), (5, nV s.1)])
  (fun (s : Nat × Nat × List Tok) hp => s.1 ≤ n ∧ s.2.1 ≤ n ∧ s.2.2 ++ splitF b lv (b.length - s.1) s.1 = splitL b lv ∧ St B h0 hp (pt ps 220 (spC A n c pf lv) :: finR pf A n c s.2.1 b :: pt p2 3 [.int .i64 lv] :: pt p1 22 [.slice A n c] :: (JR s.2.2 ++ F)))
  (0, 0, []) (.cons rfl (.cons rfl (.cons rfl (.cons rfl (.cons rfl (.nil _)))))) ⟨Nat.zero_le _, Nat.zero_le _, rfl, st⟩ ?_
 clear st st0
 rintro ⟨a, u, s⟩ hp ⟨ha, hu, hs, st⟩
 simp only at ha hu hs st ⊢
 refine X_seq (X_seq (X_reg (XV rfl rfl rfl ?_)))
 refine XR_a (op_ld (st.cell 3 (i := 0) rfl rfl) rfl rfl rfl) rfl rfl ?_
 refine XR_a (op_len rfl rfl rfl) rfl rfl ?_
 refine XR_a (op_lss rfl rfl) rfl rfl ?_
 refine XR_nil ?_
 refine X_if rfl (fun h => ?_) (fun h => ?_)
 ·have hal : a < b.length := by omega
  rw [splitF_step hal] at hs
  obtain ⟨hx1, hx2, hx3, hx4, _⟩ := tokM_ok (lv := lv) hal
  have hxs := Tok.size_le hx1
  refine X_skip (X_block (X_seq (X_reg (XV rfl rfl rfl (XV rfl rfl rfl ?_)))))
  refine XR_wa (opl_call (tnext_spec st.here (fun h' hh => hrB h' (st.low.trans hh)) hl hn hu (by omega)) rfl (by kernel_rfl)) rfl rfl rfl ?_
  rintro _ hp2 ⟨rfl, u2, hu2, st2⟩
  replace st := st.trans st2
  clear st2
  obtain ⟨x, hx⟩ : ∃ x, tokM b lv a = x := ⟨_, rfl⟩
  rw [hx] at hs hx1 hx2 hx3 hx4 hxs ⊢
  refine XR_wa (opl_new rfl) rfl rfl rfl ?_
  rintro _ hp ⟨p6, rfl, hnew⟩
  replace st := st.new hnew
  refine XR_wn (opl_store_whole (us := tokV x) st 0 rfl rfl rfl rfl rfl (tokV_one x) rfl) rfl rfl fun _ hp st => ?_
  simp only [List.set_cons_zero] at st
  have st3 := st.perm (List.perm_append_comm_assoc [_, _, _, _, _] (JR s) F)
  refine XR_nil (X_seq (X_seq (X_reg (XV rfl rfl rfl ?_))))
  refine XR_a (op_ldA (vs := tokV x) (st.cells 0 rfl) rfl rfl rfl rfl) rfl rfl ?_
  refine XR_ya (opy_yield rfl (hround s x _ _ _ st3.low hs st3.here) rfl) rfl rfl rfl ?_
  rintro _ hp3 ⟨rfl, st4⟩
  replace st := (st3.trans st4).perm (List.perm_append_comm_assoc (JR (s ++ [x])) [pt p6 65 (tokV x), pt ps 220 (spC A n c pf lv), finR pf A n c u2 b, pt p2 3 [.int .i64 lv], pt p1 22 [.slice A n c]] F)
  first | refine XR_a (op_notd rfl) rfl rfl ?_ | refine XR_a (op_not rfl) rfl rfl ?_
  refine XR_nil (X_else rfl (X_skip (X_reg (XV rfl rfl rfl ?_))))
  first | refine XR_a (op_field0 rfl rfl) rfl rfl ?_ | refine XR_a (op_fieldn rfl rfl) rfl rfl ?_
  refine XR_a (op_ld (st.cell 0 (i := 1) rfl rfl) rfl rfl rfl) rfl rfl ?_
  refine XR_a (op_max2 rfl rfl) rfl rfl ?_
  refine XR_as (nV x.size) (congrArg (Value.int .i64) (by omega)) ?_
  first | refine XR_a (op_addN rfl rfl (by simp only [inK]; omega)) rfl rfl ?_ | refine XR_a (op_addI rfl rfl (by simp only [inK]; omega)) rfl rfl ?_ | refine XR_a (op_add rfl rfl) rfl rfl ?_
  refine XA rfl rfl rfl (XR_nil (X_blk ?_))
  exact X_again (a + x.size, u2, s ++ [x]) (.cons rfl (.cons rfl (.cons rfl (.cons rfl (.cons rfl (.nil _)))))) ⟨by simp only; omega, hu2, by simp only; rw [List.append_assoc]; exact hs, st.tail⟩ (by simp only; omega)
 ·refine X_exit rfl ?_
  refine X_end .nil ?_
  rw [splitF_end (by omega), List.append_nil] at hs
  rw [← hs]
  exact st.tail.tail.tail.tail
theorem appendSeq_toks {B gf : Nat} {lb : List Value} {P : List Tok} {F : List Res} {h0 : Heap} (st0 : St B h0 h0 F) (hc : callOk Tryz.prog gf = true) (hP : P.length ≤ 1048576)
  (hiter : ∀ (JR : List Tok → List Res) (G : List Res) (y : Nat) (h : Heap), Low B h0 h → St B h h (F ++ (JR [] ++ G)) →
   (∀ (s : List Tok) (x : Tok) (r : List Tok) (F' : List Res) (h' : Heap), Low B h h' → s ++ x :: r = P → St B h' h' (JR s ++ F') → RRet Tryz.prog y [.agg (tokV x).toArray] h' fun u h'' => u = .bool true ∧ St B h' h'' (JR (s ++ [x]) ++ F')) →
   Ret Tryz.prog gf (.func (.yield y) #[] #[] :: lb) h fun _ h' => St B h h' (JR P ++ G)) :
  Ret Tryz.prog 126 [.slice none 0 0, .func (.func gf) #[] lb.toArray] h0 fun v h' => St B h0 h' [Bn.row 65 3 v (P.flatMap tokV)] := by
 refine ret_of_X Tryz.func126 rfl rfl fun w0 hw0 => ?_
 simp only [argE, Nat.zero_add, Nat.reduceAdd]
 refine X_seq (X_reg ?_)
 refine XR_wa (opl_bx rfl rfl) rfl rfl rfl ?_
 rintro _ hp ⟨p, rfl, hnew⟩
 have st := (st0.new hnew).nilrow 65 3
 refine XA rfl rfl rfl (XR_nil (X_seq (X_seq (X_reg (XV rfl rfl rfl (XR_nil (X_block ?_)))))))
 refine X_rangeS st rfl rfl hc fun fn tmps L y d hp1 hL hok hx1 st1 => ?_
 obtain ⟨JR, hJR⟩ : ∃ JR : List Tok → List Res, JR = fun s => [obj y (L .ready none), exR fun v => starR (Bn.row 65 3 v (s.flatMap tokV)) (pt p 26 [v])] := ⟨_, rfl⟩
 have st2 : St B h0 hp1 (F ++ (JR [] ++ [obj d (.deferred (some []))])) := by
  have s3 : St B h0 hp1 (Bn.row 65 3 (.slice none 0 0) [] :: pt p 26 [.slice none 0 0] :: obj y (L .ready none) :: obj d (.deferred (some [])) :: F) :=
   st1.perm (List.perm_append_comm_assoc [obj y (L .ready none), obj d (.deferred (some []))] [Bn.row 65 3 (.slice none 0 0) [], pt p 26 [.slice none 0 0]] F)
  have s4 : St B h0 hp1 ((exR fun v => starR (Bn.row 65 3 v (([] : List Tok).flatMap tokV)) (pt p 26 [v])) :: obj y (L .ready none) :: obj d (.deferred (some [])) :: F) := St.ex.2 ⟨Value.slice none 0 0, St.star.2 s3⟩
  have s5 := s4.perm ((List.Perm.swap _ _ _).trans (List.perm_append_comm (l₁ := [obj y (L .ready none), exR fun v => starR (Bn.row 65 3 v (([] : List Tok).flatMap tokV)) (pt p 26 [v]), obj d (.deferred (some []))]) (l₂ := F)))
  rw [hJR]; exact s5
 refine Ret.mono (hiter JR [obj d (.deferred (some []))] y hp1 st2.low st2.here ?_) ?_
 ·intro s u0 r F' h hlow hsP st3
  subst hL
  subst hJR
  simp only [List.cons_append, List.nil_append] at st3
  have hsl : s.length < P.length := by rw [← hsP]; simp
  obtain ⟨v9, st3⟩ := St.ex.1 (st3.perm (List.Perm.swap _ _ _))
  have st := (St.star.1 st3)
  refine rret_of_X (st.obj_at 2 rfl) hok rfl rfl fun w0 hw0 => ?_
  simp only [penv]
  refine X_reg ?_
  refine XR_wa (opl_new rfl) rfl rfl rfl ?_
  rintro _ hp ⟨p5, rfl, hnew⟩
  replace st := st.new hnew
  refine XR_wn (opl_store_whole (us := tokV u0) st 0 rfl rfl rfl rfl rfl (tokV_one u0) rfl) rfl rfl fun _ hp st => ?_
  simp only [List.set_cons_zero] at st
  refine XR_nil ?_
  refine X_begin (st.obj_at 3 rfl) ?_
  replace st := st.loop 3 .busy none rfl
  simp only [List.set_cons_zero, List.set_cons_succ] at st
  refine X_block (X_reg ?_)
  refine XR_a (op_ld (st.cell 2 (i := 0) rfl rfl) rfl rfl rfl) rfl rfl ?_
  refine XR_a (op_ldA (vs := tokV u0) (st.cells 0 rfl) rfl rfl rfl rfl) rfl rfl ?_
  refine XR_wa (opl_varA (us := tokV u0) rfl rfl rfl rfl (by kernel_rfl)) rfl rfl rfl ?_
  rintro _ hp ⟨A, rfl, hx, hrd⟩
  replace st := st.ext hx
  refine XR_wa (opl_append st 1 rfl (hrd) (rfl) (tokV_one u0) (by rw [flat_length _ 3 (fun _ => rfl)]; simp [tokV]; omega) rfl rfl rfl rfl rfl rfl rfl) rfl rfl rfl fun v hp st => ?_
  simp only [List.set_cons_zero, List.set_cons_succ] at st
  have e2 : s.flatMap tokV ++ tokV u0 = (s ++ [u0]).flatMap tokV := by rw [List.flatMap_append]; simp
  rw [e2] at st
  obtain ⟨A6, n6, c6, rfl, _⟩ := st.row 1 rfl
  refine XR_wn (opl_store_pt st 2 rfl rfl rfl rfl rfl (rfl)) rfl rfl fun _ hp st => ?_
  simp only [List.set_cons_zero, List.set_cons_succ] at st
  refine XR_nil (X_blk ?_)
  refine X_rnd (st.obj_at 3 rfl) ⟨rfl, ?_⟩
  replace st := st.loop 3 .ready none rfl
  simp only [List.set_cons_zero, List.set_cons_succ] at st
  have s6 := (St.ex.2 ⟨_, St.star.2 st.tail⟩ : St B h _ ((exR fun v => starR (Bn.row 65 3 v ((s ++ [u0]).flatMap tokV)) (pt p 26 [v])) :: _))
  exact s6.perm (List.Perm.swap _ _ _)
 rintro _ h' st3
 subst hJR
 simp only [List.cons_append, List.nil_append] at st3
 refine .inl ⟨_, st2.trans st3, fun hp3 st4 => ?_⟩
 obtain ⟨v9, st4⟩ := St.ex.1 (st4.perm (List.Perm.swap _ _ _))
 have st := St.star.1 st4
 refine X_blk (X_seq (X_reg ?_))
 refine XR_a (op_ld (st.cell 1 (i := 0) rfl rfl) rfl rfl rfl) rfl rfl ?_
 refine XA rfl rfl rfl (XR_nil ?_)
 refine X_retM (d := d) (.cons (.tmp rfl) .nil) ?_ (st.obj_at 3 rfl)
 replace st := st.put 3 (.deferred none) rfl
 exact st.keep 1
theorem collect_toks {B gf : Nat} {lb : List Value} {P : List Tok} {F : List Res} {h0 : Heap} (st0 : St B h0 h0 F) (hc : callOk Tryz.prog gf = true) (hP : P.length ≤ 1048576)
  (hiter : ∀ (JR : List Tok → List Res) (G : List Res) (y : Nat) (h : Heap), Low B h0 h → St B h h (F ++ (JR [] ++ G)) →
   (∀ (s : List Tok) (x : Tok) (r : List Tok) (F' : List Res) (h' : Heap), Low B h h' → s ++ x :: r = P → St B h' h' (JR s ++ F') → RRet Tryz.prog y [.agg (tokV x).toArray] h' fun u h'' => u = .bool true ∧ St B h' h'' (JR (s ++ [x]) ++ F')) →
   Ret Tryz.prog gf (.func (.yield y) #[] #[] :: lb) h fun _ h' => St B h h' (JR P ++ G)) :
  Ret Tryz.prog 95 [.func (.func gf) #[] lb.toArray] h0 fun v h' => St B h0 h' [Bn.row 65 3 v (P.flatMap tokV)] := by
 refine ret_of_X Tryz.func95 rfl rfl fun w0 hw0 => ?_
 simp only [argE, Nat.zero_add, Nat.reduceAdd]
 refine X_seq (X_reg (XA rfl rfl rfl (XR_nil (X_seq (X_reg (XV rfl rfl rfl ?_))))))
 refine XR_wa (opl_call (appendSeq_toks st0 hc hP hiter) rfl (by kernel_rfl)) rfl rfl rfl ?_
 rintro v hp h
 refine XA rfl rfl rfl (XR_nil ?_)
 refine X_ret (.cons (.tmp rfl) .nil) ?_
 exact h
theorem tsplit_spec {n c : Nat} {lv : Int} {A : Option Addr} {b : List UInt8} {h0 : Heap} (hr : Rd h0 A (b.map byteV)) (hl : b.length = n) (hn : n ≤ 1048576) :
  Ret Tryz.prog 58 [.slice A n c, .int .i64 lv] h0 fun v h' => St h0.size h0 h' [row 65 3 v ((splitL b lv).flatMap tokV)] := by
 have hpl : (splitL b lv).length ≤ b.length := by
  obtain ⟨_, _, _, h4, _⟩ := splitF_ok (b := b) (lv := lv) b.length 0 (Nat.zero_le _) (by omega)
  unfold splitL; omega
 refine ret_of_X Tryz.func58 rfl rfl fun w0 hw0 => ?_
 simp only [argE, Nat.zero_add, Nat.reduceAdd]
 refine X_seq (X_reg (XA rfl rfl rfl (XR_nil (X_seq (X_reg (XV rfl rfl rfl (XV rfl rfl rfl ?_)))))))
 refine XR_wa (opl_call (teach_spec) rfl (by kernel_rfl)) rfl rfl rfl ?_
 rintro _ hp ⟨p1, p2, rfl, st⟩
 refine XR_wa (opl_call (collect_toks (P := splitL b lv) (lb := [.pointer (some ⟨p1, 0, none⟩), .pointer (some ⟨p2, 0, none⟩)]) st.here (by kernel_rfl) (by omega) (fun JR G y h hlow s hround => teach_iter JR s (fun h' hh => hr.ext ((st.low.trans hlow).trans hh)) hl (by omega) hround)) rfl (by kernel_rfl)) rfl rfl rfl ?_
 rintro v hp2 st2
 refine XA rfl rfl rfl (XR_nil ?_)
 refine X_ret (.cons (.tmp rfl) .nil) ?_
 exact st.trans st2
end Go.Bn
end
