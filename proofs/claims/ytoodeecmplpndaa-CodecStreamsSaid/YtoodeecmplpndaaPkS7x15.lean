/- Packed texts of a claim: what its theorem uses, joined. -/
import Derived.Test.YtoodeecmplpndaaProg
import Derived.Test.YtoodeecmplpndaaPkS7x14
section
set_option linter.unusedVariables false
set_option linter.unusedSimpArgs false
set_option maxHeartbeats 4000000
set_option maxRecDepth 20000
namespace Go.Bn
open Go Proofs
theorem wrB_pack (bs : List Bool) (n : Nat) : ∃ Z, bitsB (pack (bs ++ bitsN 32 n)) = bs ++ Z := ⟨_, by rw [bitsB_pack, List.append_assoc]⟩
theorem blockBack_ret {m c x : Nat} {lv : Int} {A : Option Addr} {l : List UInt8} {h0 : Heap} (hr : Rd h0 A (l.map byteV)) (hl : l.length = m) (hx : x < 4294967296) :
  Ret Try.prog 5 [.slice A m c, .int .i64 lv, .int .u32 (x : Int)] h0 fun v h' => v = .bool true ∧ Ext h0 h' := by
 refine ret_of_X Try.func5 rfl rfl fun w0 hw0 => ?_
 simp only [argE, Nat.zero_add, Nat.reduceAdd]
 refine X_seq (X_reg (XA rfl rfl rfl (XR_nil (X_seq (X_seq (X_reg (XV rfl rfl rfl ?_)))))))
 refine XR_a (op_len rfl rfl rfl) rfl rfl ?_
 refine XR_a (op_gtr rfl rfl) rfl rfl ?_
 refine XR_nil ?_
 refine X_if rfl (fun h => ?_) (fun h => ?_)
 ·refine X_seq (X_reg ?_)
  refine XR_wa (opl_call (lives13 _) rfl (by kernel_rfl)) rfl rfl rfl ?_
  rintro _ hp ⟨rfl, hx1⟩
  refine XA rfl rfl rfl (XR_nil ?_)
  refine X_ret (.cons (.tmp rfl) .nil) ?_
  exact ⟨rfl, hx1⟩
 ·refine X_skip (X_seq (X_reg (XV rfl rfl rfl (XV rfl rfl rfl ?_))))
  refine XR_wa (opl_call (tsplit_spec (lv := lv) hr hl (by omega)) rfl (by kernel_rfl)) rfl rfl rfl ?_
  rintro v7 hp2 st
  obtain ⟨hR, hby, hdO, hsz, hle, _⟩ := splitL_ok (b := l) lv (by omega)
  have hblen := blockB_len (split_b30 hR hby)
  rw [List.length_map] at hblen
  have hback := fun (most : Int) (h : ((sizeT (splitL l lv) : Nat) : Int) ≤ most) Z => blockT_back hR hby hdO h Z
  have hshort := fun (most : Int) (h0 : 0 ≤ most) (h : most < (sizeT (splitL l lv) : Int)) Z => blockT_short hR hby hdO h0 h Z
  obtain ⟨ts, hts⟩ : ∃ ts, splitL l lv = ts := ⟨_, rfl⟩
  simp only [hts] at st hR hby hdO hsz hle hblen hback hshort
  obtain ⟨A7, n7, c7, rfl, hl7, _⟩ := st.row 0 rfl
  rw [flat_length _ 3 (fun _ => rfl)] at hl7
  refine XA rfl rfl rfl (XR_nil (X_seq (X_reg ?_)))
  refine XR_wa (opl_new rfl) rfl rfl rfl ?_
  rintro _ hp ⟨p8, rfl, hnew⟩
  replace st := (st.new hnew).wr0
  refine XR_nil (X_seq (X_seq (X_reg (XV rfl rfl rfl ?_))))
  refine XR_wa (opl_call (bput_spec st.here (fun h' rs hs => hs.rdM (List.mem_append_right _ List.mem_cons_self)) (show ts.length = n7 by omega) (by omega) hby (by simp)) rfl (by kernel_rfl)) rfl rfl rfl ?_
  rintro _ hp3 ⟨rfl, st3⟩
  rw [if_pos hR, List.nil_append] at st3
  rw [if_pos hR]
  replace st := st.trans st3
  clear st3
  obtain ⟨BL, hBL⟩ : ∃ BL, blockB (ts.map splitY) = BL := ⟨_, rfl⟩
  simp only [hBL] at st hblen hback hshort
  refine XR_a (op_neq rfl rfl) rfl rfl ?_
  refine XR_as (.bool false) (congrArg Value.bool (decide_eq_false (fun hh => hh rfl))) ?_
  refine XR_nil (X_else rfl (X_skip (X_seq (X_reg ?_))))
  refine XR_wa (opl_call (wlen_spec st.here (by omega)) rfl (by kernel_rfl)) rfl rfl rfl ?_
  rintro _ _ ⟨rfl, rfl⟩
  refine XA rfl rfl rfl (XR_nil (X_seq (X_reg (XV rfl rfl rfl ?_))))
  refine XR_wa (opl_call (put_spec (k := 32) (n := x) st.here (by omega) (by omega)) rfl (by kernel_rfl)) rfl rfl rfl ?_
  rintro _ hp5 ⟨rfl, st5⟩
  replace st := st.trans st5
  clear st5
  obtain ⟨Z, hZ⟩ := wrB_pack BL x
  have hpl := pack_length (BL ++ bitsN 32 x)
  rw [List.length_append, bitsN_length] at hpl
  have hW : BL ++ bitsN (wd 32 32) x = BL ++ bitsN 32 x := rfl
  rw [hW] at st
  refine XR_nil (X_seq (X_reg ?_))
  refine XR_wa (opl_call (wbytes_spec st.here (by rw [List.length_append, bitsN_length]; omega)) rfl (by kernel_rfl)) rfl rfl rfl ?_
  rintro v28 hp6 st6
  replace st := st.join st6
  simp only [List.cons_append, List.nil_append] at st
  clear st6
  obtain ⟨pk, hpk⟩ : ∃ pk, pack (BL ++ bitsN 32 x) = pk := ⟨_, rfl⟩
  rw [hpk] at st hZ hpl
  obtain ⟨A28, n28, c28, rfl, hl28, _, _, hr28⟩ := st.row 0 rfl
  rw [List.length_map, Nat.mul_one] at hl28
  refine XR_wa (opl_call (rnew_spec) rfl (by kernel_rfl)) rfl rfl rfl ?_
  rintro _ hp7 ⟨q1, rfl, st7⟩
  refine XA rfl rfl rfl (XR_nil (X_seq (X_reg (XV rfl rfl rfl (XV rfl rfl rfl ?_)))))
  refine XR_a (op_len rfl rfl rfl) rfl rfl ?_
  refine XR_wa (opl_call (btake_spec (most := (m : Int)) st7.here (fun h' hh => hr28.ext (st7.low.trans hh)) hl28 (by omega) (by simp only [inK]; omega)) rfl (by kernel_rfl)) rfl rfl rfl ?_
  rintro _ hp8 ⟨w11, a1, rfl, ha1, hat1, st8⟩
  rw [hZ, hback _ (by omega)] at st8 hat1
  rw [hZ, hback _ (by omega)]
  obtain rfl := hat1 rfl
  replace st := st.join (st7.trans st8)
  simp only [List.cons_append, List.nil_append] at st
  clear st7 st8 hr28
  replace st := St.re st 5 [3, 0, 1, 2, 4] (by decide)
  simp only [List.map_cons, List.map_nil, getR] at st
  refine XV rfl rfl rfl (XR_a (op_extract rfl rfl) rfl rfl (XR_a (op_extract rfl rfl) rfl rfl (XA rfl rfl rfl (XA rfl rfl rfl (XR_nil (X_seq (X_reg ?_)))))))
  refine XR_wa (opl_call (wbytes_spec st.here (by rw [List.length_append, bitsN_length]; omega)) rfl (by kernel_rfl)) rfl rfl rfl ?_
  rintro v38 hp9 st9
  rw [hpk] at st9
  replace st := st.join st9
  simp only [List.cons_append, List.nil_append] at st
  clear st9
  obtain ⟨A38, n38, c38, rfl, hl38, _, _, hr38⟩ := st.row 0 rfl
  rw [List.length_map, Nat.mul_one] at hl38
  refine XR_wa (opl_call (rnew_spec) rfl (by kernel_rfl)) rfl rfl rfl ?_
  rintro _ hp10 ⟨q2, rfl, st10⟩
  refine XV rfl rfl rfl ?_
  refine XR_a (op_len rfl rfl rfl) rfl rfl ?_
  refine XR_a (op_subI rfl rfl (by simp only [inK]; omega)) rfl rfl ?_
  refine XR_wa (opl_call (btake_spec (most := (m : Int) - 1) st10.here (fun h' hh => hr38.ext (st10.low.trans hh)) hl38 (by omega) (by simp only [inK]; omega)) rfl (by kernel_rfl)) rfl rfl rfl ?_
  rintro _ hp11 ⟨w13, a2, rfl, ha2, hat2, st11⟩
  replace st := st.ext (st10.trans st11).low
  clear st10 st11 hr38 hat2 ha2
  rw [hZ]
  obtain ⟨A11, n11, c11, rfl, hl11, hn11, hc11, hr11⟩ := st.row 3 rfl
  obtain ⟨_, _, _, he7, hl7', hn7, hc7, hr7⟩ := st.row 5 rfl
  obtain ⟨rfl, rfl, rfl⟩ := Value.slice.inj he7
  rw [flat_length _ 3 (fun _ => rfl)] at hl11
  refine XV rfl rfl rfl (XR_a (op_extract rfl rfl) rfl rfl (XR_a (op_extract rfl rfl) rfl rfl (XA rfl rfl rfl (XA rfl rfl rfl (XR_nil (X_seq (X_reg (XV rfl rfl rfl ?_))))))))
  refine XR_a (op_eql rfl rfl) rfl rfl ?_
  refine XR_as (.bool true) (congrArg Value.bool (decide_eq_true rfl)) ?_
  refine XV rfl rfl rfl (XV rfl rfl rfl (XV rfl rfl rfl ?_))
  refine XR_wa (opl_call (same11_ref hr11 (by omega) hr7 (by omega) (by omega) (by omega)) rfl (by kernel_rfl)) rfl rfl rfl ?_
  rintro _ _ ⟨rfl, rfl⟩
  rw [decide_eq_true rfl]
  refine XR_a (op_pick_t rfl rfl) rfl rfl (XV rfl rfl rfl (XV rfl rfl rfl ?_))
  refine XR_wa (opl_call (rat_spec (st.cell 2 (i := 1) rfl rfl)) rfl (by kernel_rfl)) rfl rfl rfl ?_
  rintro _ _ ⟨rfl, rfl⟩
  refine XV rfl rfl rfl ?_
  refine XR_a (op_eql rfl rfl) rfl rfl ?_
  refine XR_as (.bool true) (congrArg Value.bool (decide_eq_true rfl)) ?_
  refine XR_a (op_pick_t rfl rfl) rfl rfl (XV rfl rfl rfl (XV rfl rfl rfl ?_))
  refine XR_a (op_len rfl rfl rfl) rfl rfl ?_
  refine XR_a (op_eql rfl rfl) rfl rfl ?_
  refine XV rfl rfl rfl ?_
  refine XR_if 63 rfl (fun h => ?_) (fun h => ?_)
  ·refine XR_no rfl rfl (XR_no rfl rfl (XR_a (op_pick_t rfl rfl) rfl rfl (XR_a (op_pick_t rfl rfl) rfl rfl (XV rfl rfl rfl ?_))))
   refine XR_wa (opl_call (lives13 _) rfl (by kernel_rfl)) rfl rfl rfl ?_
   rintro _ hp14 ⟨rfl, hx14⟩
   refine XR_a (op_pick_t rfl rfl) rfl rfl (XA rfl rfl rfl (XR_nil ?_))
   refine X_ret (.cons (.tmp rfl) .nil) ?_
   exact ⟨rfl, Ext.trans st.low hx14⟩
  ·refine XV rfl rfl rfl ?_
   refine XR_a (op_eql rfl rfl) rfl rfl ?_
   refine XR_as (.bool true) (congrArg Value.bool (decide_eq_true (by rw [hshort _ (by omega) (by omega)]; rfl))) ?_
   refine XR_a (op_pick_f rfl rfl) rfl rfl (XR_a (op_pick_t rfl rfl) rfl rfl (XV rfl rfl rfl ?_))
   refine XR_wa (opl_call (lives13 _) rfl (by kernel_rfl)) rfl rfl rfl ?_
   rintro _ hp14 ⟨rfl, hx14⟩
   refine XR_a (op_pick_t rfl rfl) rfl rfl (XA rfl rfl rfl (XR_nil ?_))
   refine X_ret (.cons (.tmp rfl) .nil) ?_
   exact ⟨rfl, Ext.trans st.low hx14⟩
end Go.Bn
end

section
set_option linter.unusedVariables false
set_option linter.unusedSimpArgs false
namespace Go.Bn
def chunkF : Nat → List UInt8 → List (List UInt8)
  | 0, _ => []
  | f + 1, l => if l = [] then [] else l.take 65535 :: chunkF f (l.drop 65535)
def chunks (l : List UInt8) : List (List UInt8) := chunkF l.length l
theorem chunkF_fuel : ∀ (f f' : Nat) (l : List UInt8), l.length ≤ f → l.length ≤ f' → chunkF f l = chunkF f' l
 | 0, f', l, h, _ => by
  obtain rfl : l = [] := List.eq_nil_of_length_eq_zero (by omega)
  cases f' with
  | zero => rfl
  | succ f' => simp [chunkF]
 | f + 1, 0, l, _, h => by
  obtain rfl : l = [] := List.eq_nil_of_length_eq_zero (by omega)
  simp [chunkF]
 | f + 1, f' + 1, l, h, h' => by
  simp only [chunkF]
  split
  ·rfl
  ·rename_i hl
   have : 0 < l.length := List.length_pos_iff.2 hl
   rw [chunkF_fuel f f' _ (by rw [List.length_drop]; omega) (by rw [List.length_drop]; omega)]
theorem chunks_nil : chunks [] = [] := rfl
theorem chunks_cons {l : List UInt8} (h : 0 < l.length) : chunks l = l.take 65535 :: chunks (l.drop 65535) := by
 unfold chunks
 cases l with
 | nil => simp at h
 | cons a r =>
  rw [List.length_cons, chunkF, if_neg (by simp)]
  congr 1
  exact chunkF_fuel _ _ _ (by simp) (by simp)
theorem chunks_ok : ∀ (n : Nat) (l : List UInt8), l.length ≤ n → (chunks l).flatten = l ∧ ∀ x ∈ chunks l, 0 < x.length ∧ x.length ≤ 65535
 | 0, l, h => by
  obtain rfl : l = [] := List.eq_nil_of_length_eq_zero (by omega)
  exact ⟨rfl, by simp [chunks_nil]⟩
 | n + 1, l, h => by
  rcases Nat.eq_zero_or_pos l.length with h0 | h0
  ·obtain rfl : l = [] := List.eq_nil_of_length_eq_zero h0
   exact ⟨rfl, by simp [chunks_nil]⟩
  ·obtain ⟨h1, h2⟩ := chunks_ok n (l.drop 65535) (by rw [List.length_drop]; omega)
   rw [chunks_cons h0]
   refine ⟨by rw [List.flatten_cons, h1, List.take_append_drop], fun x hx => ?_⟩
   rcases List.mem_cons.1 hx with rfl | hx
   ·rw [List.length_take]; omega
   ·exact h2 x hx
def pieceS (s : List (List UInt8)) : List UInt8 := s.flatMap fun x => leB 2 x.length ++ x
def pieceB (l : List UInt8) : List UInt8 := pieceS (chunks l)
theorem pieceS_snoc (s : List (List UInt8)) (x : List UInt8) : pieceS (s ++ [x]) = pieceS s ++ leB 2 x.length ++ x := by simp [pieceS]
theorem pieceS_len : ∀ (s : List (List UInt8)), (pieceS s).length = 2 * s.length + s.flatten.length
 | [] => rfl
 | x :: r => by
  have ih := pieceS_len r
  simp only [pieceS, List.flatMap_cons, List.length_append, leB_length, List.length_cons, List.flatten_cons] at ih ⊢
  omega
theorem pieceS_append (s t : List (List UInt8)) : pieceS (s ++ t) = pieceS s ++ pieceS t := by simp [pieceS]
def chunksL (ls : List (List UInt8)) : List (List UInt8) := ls.flatMap chunks
theorem flatten_len_ge : ∀ {s : List (List UInt8)}, (∀ x ∈ s, 0 < x.length) → s.length ≤ s.flatten.length
 | [], _ => by simp
 | x :: r, h => by
  have ih := flatten_len_ge (s := r) fun y hy => h y (List.mem_cons_of_mem _ hy)
  have := h x List.mem_cons_self
  simp only [List.length_cons, List.flatten_cons, List.length_append]; omega
def streamB (ls : List (List UInt8)) : List UInt8 := pieceS (chunksL ls) ++ leB 2 0
def streamN : List (List UInt8) → Nat → List UInt8 → List UInt8 × Int
  | [], _, out => (out ++ leB 2 0, 0)
  | b :: r, n, out => if 65536 < n + b.length then ([], 5) else streamN r (n + b.length) (out ++ pieceB b)
theorem streamN_ok : ∀ (ls : List (List UInt8)) (n : Nat) (out : List UInt8), n + ls.flatten.length ≤ 65536 → streamN ls n out = (out ++ streamB ls, 0)
 | [], n, out, _ => by simp [streamN, streamB, chunksL, pieceS]
 | b :: r, n, out, h => by
  simp only [List.flatten_cons, List.length_append] at h
  rw [streamN, if_neg (by omega), streamN_ok r _ _ (by omega)]
  simp [streamB, chunksL, pieceS_append, pieceB]
end Go.Bn
end

section
set_option linter.unusedVariables false
set_option linter.unusedSimpArgs false
set_option maxHeartbeats 4000000
set_option maxRecDepth 20000
namespace Go.Bn
open Go Proofs
theorem fwidth_spec (k : Int) (hp : Heap) : Ret Try.prog 54 [.int .i64 k] hp fun v hp' => v = .int .i64 (wid k : Nat) ∧ hp = hp' := by
 refine ret_of_X Try.func54 rfl rfl fun w0 hw0 => ?_
 simp only [argE, Nat.zero_add, Nat.reduceAdd]
 refine X_seq (X_reg (XA rfl rfl rfl (XR_nil (X_seq (X_reg (XV rfl rfl rfl ?_))))))
 refine XR_a (op_min2 rfl rfl) rfl rfl ?_
 refine XR_a (op_max2 rfl rfl) rfl rfl ?_
 refine XA rfl rfl rfl (XR_nil ?_)
 refine X_ret (.cons (.tmp rfl) .nil) ?_
 refine ⟨?_, rfl⟩
 rw [wid_int]; rfl
theorem fput_spec {B n : Nat} {k : Int} {v : Value} {l : List UInt8} {F : List Res} {h0 : Heap} (st : St B h0 h0 (row 5 1 v (l.map byteV) :: F)) (hn : n < 4294967296) (hl : l.length ≤ 1099511627776) :
  Ret Try.prog 29 [v, .int .u32 (n : Int), .int .i64 k] h0 fun v' h' => St B h0 h' (row 5 1 v' ((l ++ leB (wid k) n).map byteV) :: F) := by
 have hw := wid_le k
 refine ret_of_X Try.func29 rfl rfl fun w0 hw0 => ?_
 simp only [argE, Nat.zero_add, Nat.reduceAdd]
 refine X_seq (X_reg (XA rfl rfl rfl (XR_nil (X_seq (X_seq (X_reg (XV rfl rfl rfl ?_)))))))
 refine XR_wa (opl_call (fwidth_spec _ _) rfl (by kernel_rfl)) rfl rfl rfl ?_
 rintro _ _ ⟨rfl, rfl⟩
 refine XV rfl rfl rfl (XR_nil (X_block ?_))
 refine X_loop (fun s => wid k - s.2.1) (fun s => [(0, s.1), (1, .int .u32 (s.2.2 : Int)), (8, .int .i64 (wid k : Nat)), (9, .int .i64 (s.2.1 : Int))])
  (fun (s : Value × Nat × Nat) hp => St B h0 hp (row 5 1 s.1 ((l ++ leB s.2.1 n).map byteV) :: F) ∧ s.2.1 ≤ wid k ∧ s.2.2 = n / 256 ^ s.2.1)
  (v, 0, n) (.cons rfl (.cons rfl (.cons rfl (.cons rfl (.nil _))))) ⟨by simpa [leB] using st, by simp, by simp⟩ ?_
 clear st
 rintro ⟨v, i, m⟩ hp ⟨st, hi, hm⟩
 simp only at st hi hm ⊢
 have hmn : m ≤ n := by rw [hm]; exact Nat.div_le_self _ _
 refine X_seq (X_reg ?_)
 refine XR_a (op_lss rfl rfl) rfl rfl ?_
 refine XR_nil (X_seq ?_)
 refine X_if rfl (fun h => ?_) (fun h => ?_)
 ·refine X_skip (X_seq (X_block (X_seq (X_reg (XV rfl rfl rfl (XV rfl rfl rfl ?_))))))
  refine XR_a (op_convU rfl rfl rfl) rfl rfl ?_
  refine XR_as (byteV (UInt8.ofNat m)) (by simp [byteV, IntKind.bits]) ?_
  refine XR_wa (opl_var1 rfl rfl rfl) rfl rfl rfl ?_
  rintro _ hp ⟨A, rfl, hx, hrd⟩
  have st := st.ext hx
  refine XR_wa (opl_append st 0 rfl (hrd) (rfl) (by simp [Value.one, byteV]) (by simp [leB_length]; omega) rfl rfl rfl rfl rfl rfl rfl) rfl rfl rfl fun v hp st => ?_
  simp only [List.set_cons_zero, List.set_cons_succ] at st
  refine XA rfl rfl rfl (XR_nil (X_reg (XV rfl rfl rfl ?_)))
  first | refine XR_a (op_shrC 8 rfl rfl (by decide)) rfl rfl ?_ | refine XR_a (op_shrN 8 rfl rfl (by decide)) rfl rfl ?_
  refine XA rfl rfl rfl (XR_nil (X_blk (X_reg ?_)))
  first | refine XR_a (op_addN (n := 1) rfl rfl (by simp only [inK]; omega)) rfl rfl ?_ | refine XR_a (op_addI rfl rfl (by simp only [inK]; omega)) rfl rfl ?_ | refine XR_a (op_add rfl rfl) rfl rfl ?_
  refine XV rfl rfl rfl (XR_nil ?_)
  rw [← List.map_singleton (f := byteV), ← List.map_append, List.append_assoc, hm, ← leB_snoc] at st
  refine X_again (v, i + 1, m / 2 ^ 8) (.cons rfl (.cons rfl (.cons rfl (.cons rfl (.nil _))))) ⟨st, ?_, ?_⟩ ?_
  ·simp only; omega
  ·simp only; rw [hm, Nat.div_div_eq_div_mul, show (2 : Nat) ^ 8 = 256 by rfl, Nat.pow_succ]
  ·simp only; omega
 ·refine X_exit rfl (X_seq (X_reg (XV rfl rfl rfl (XA rfl rfl rfl (XR_nil ?_)))))
  refine X_ret (.cons (.tmp rfl) .nil) ?_
  have : i = wid k := by omega
  subst this
  exact st
theorem fget_spec {at_ k : Int} {A : Option Addr} {n c : Nat} {l : List UInt8} {h0 : Heap} (hr : Rd h0 A (l.map byteV)) (hl : l.length = n) (hn : n ≤ 140737488355328) (ha : inK .i64 at_) :
  Ret Try.prog 55 [.slice A n c, .int .i64 at_, .int .i64 k] h0 fun v h' => v = retVal [.int .u32 (((getF l at_ k).getD 0 : Nat) : Int), .bool (getF l at_ k).isSome] ∧ h0 = h' := by
 have hw := wid_le k
 have hw1 := wid_pos k
 simp only [inK] at ha
 refine ret_of_X Try.func55 rfl rfl fun w0 hw0 => ?_
 simp only [argE, Nat.zero_add, Nat.reduceAdd]
 refine X_seq (X_reg (XA rfl rfl rfl (XA rfl rfl rfl (XR_nil (X_seq (X_reg (XV rfl rfl rfl ?_)))))))
 refine XR_wa (opl_call (fwidth_spec _ _) rfl (by kernel_rfl)) rfl rfl rfl ?_
 rintro _ _ ⟨rfl, rfl⟩
 refine XA rfl rfl rfl (XR_nil (X_seq (X_seq (X_reg (XV rfl rfl rfl ?_)))))
 refine XR_a (op_lss rfl rfl) rfl rfl ?_
 refine XV rfl rfl rfl ?_
 refine XR_if 15 rfl (fun h => ?_) (fun h => ?_)
 ·refine XR_no rfl rfl (XR_no rfl rfl (XR_no rfl rfl (XR_no rfl rfl (XR_no rfl rfl (XR_no rfl rfl (XR_a (op_pick_t rfl rfl) rfl rfl (XR_nil (X_then rfl (X_seq ?_)))))))))
  refine X_reg (XA rfl rfl rfl (XA rfl rfl rfl (XR_nil ?_)))
  refine X_ret (.cons (.tmp rfl) (.cons (.tmp rfl) .nil)) ?_
  have : getF l at_ k = none := by unfold getF; rw [if_neg (by omega)]
  rw [this]; exact ⟨rfl, rfl⟩
 ·refine XV rfl rfl rfl (XV rfl rfl rfl ?_)
  refine XR_a (op_len rfl rfl rfl) rfl rfl ?_
  refine XV rfl rfl rfl ?_
  refine XR_a (op_subI rfl rfl (by simp only [inK]; omega)) rfl rfl ?_
  refine XR_a (op_gtr rfl rfl) rfl rfl ?_
  refine XR_a (op_pick_f rfl rfl) rfl rfl (XR_nil ?_)
  refine X_if rfl (fun h => ?_) (fun h => ?_)
  ·refine X_seq (X_reg (XA rfl rfl rfl (XA rfl rfl rfl (XR_nil ?_))))
   refine X_ret (.cons (.tmp rfl) (.cons (.tmp rfl) .nil)) ?_
   have : getF l at_ k = none := by unfold getF; rw [if_neg (by omega)]
   rw [this]; exact ⟨rfl, rfl⟩
  ·obtain ⟨a, rfl⟩ : ∃ a : Nat, at_ = (a : Int) := ⟨at_.toNat, by omega⟩
   have hg : getF l (a : Int) k = some (leV ((l.drop a).take (wid k))) := by unfold getF; rw [if_pos (by omega)]; simp
   rw [hg]
   refine X_skip (X_seq (X_reg (XA rfl rfl rfl (XR_nil (X_seq (X_seq (X_reg (XV rfl rfl rfl ?_))))))))
   refine XR_a (op_subI rfl rfl (by simp only [inK]; omega)) rfl rfl ?_
   refine XA rfl rfl rfl (XR_nil (X_block ?_))
   obtain ⟨b, o, rfl, hc⟩ : ∃ b o, A = some ⟨b, o, none⟩ ∧ ∀ i u, (l.map byteV)[i]? = some u → cellH h0 ⟨b, o + i, none⟩ = some u := by
    rcases hr with h | h
    ·exfalso
     have : l = [] := by simpa using h
     subst this; simp at hl; omega
    ·exact h
   refine X_loop (fun s => s) (fun s => [(0, .slice (some ⟨b, o, none⟩) n c), (1, .int .i64 (a : Int)), (9, .int .u32 (leV ((l.drop (a + s)).take (wid k - s)) : Nat)), (10, .int .i64 ((s : Int) - 1))])
    (fun (s : Nat) hp => h0 = hp ∧ s ≤ wid k)
    (wid k) (.cons rfl (.cons rfl (.cons (by simp [leV]; rfl) (.cons rfl (.nil _))))) ⟨rfl, Nat.le_refl _⟩ ?_
   rintro i hp ⟨rfl, hi⟩
   refine X_seq (X_seq (X_reg (XV rfl rfl rfl ?_)))
   refine XR_a (op_geq rfl rfl) rfl rfl ?_
   refine XR_nil ?_
   refine X_if rfl (fun h => ?_) (fun h => ?_)
   ·obtain ⟨i, rfl⟩ : ∃ j, i = j + 1 := ⟨i - 1, by omega⟩
    have hlt : a + i < l.length := by omega
    have hstep : (l.drop (a + i)).take (wid k - i) = l[a + i] :: (l.drop (a + (i + 1))).take (wid k - (i + 1)) := by
     rw [List.drop_eq_getElem_cons hlt, show wid k - i = (wid k - (i + 1)) + 1 by omega, List.take_succ_cons]; rfl
    have hcell := hc (a + i) (byteV l[a + i]) (by simp [hlt])
    have hv := leV_lt ((l.drop (a + (i + 1))).take (wid k - (i + 1)))
    have hv2 : leV ((l.drop (a + (i + 1))).take (wid k - (i + 1))) < 16777216 := by
     refine Nat.lt_of_lt_of_le hv (Nat.le_trans (Nat.pow_le_pow_right (by omega) (?_ : _ ≤ 3)) (by decide))
     rw [List.length_take]; omega
    have hb := (l[a + i]).toNat_lt
    rw [show (((i + 1 : Nat) : Int) - 1) = (i : Int) by omega]
    refine X_skip (X_seq (X_block (X_reg (XV rfl rfl rfl ?_))))
    first | refine XR_a (op_shlC 8 rfl rfl (by decide) (by simp only [inK]; omega)) rfl rfl ?_ | refine XR_a (op_shlI 8 rfl rfl (by decide) (by simp only [inK]; omega)) rfl rfl ?_ | refine XR_a (op_shlN 8 rfl rfl (by decide)) rfl rfl ?_
    refine XV rfl rfl rfl (XV rfl rfl rfl (XV rfl rfl rfl ?_))
    first | refine XR_a (op_addN rfl rfl (by simp only [inK]; omega)) rfl rfl ?_ | refine XR_a (op_addI rfl rfl (by simp only [inK]; omega)) rfl rfl ?_ | refine XR_a (op_add rfl rfl) rfl rfl ?_
    refine XR_a (op_index1 (i := a + i) rfl rfl rfl (by omega)) rfl rfl ?_
    refine XR_a (op_ld (hcell) rfl rfl rfl) rfl rfl ?_
    refine XR_a (op_convI rfl rfl (by simp only [inK]; omega)) rfl rfl ?_
    refine XR_a (op_orN rfl rfl rfl (by simp only [IntKind.bits]; omega) (by simp only [IntKind.bits]; omega)) rfl rfl ?_
    rw [show leV ((l.drop (a + (i + 1))).take (wid k - (i + 1))) * 2 ^ 8 ||| l[a + i].toNat = leV ((l.drop (a + i)).take (wid k - i)) by
     rw [hstep, leV, Nat.mul_comm, ← Nat.two_pow_add_eq_or_of_lt hb]; omega]
    refine XA rfl rfl rfl (XR_nil (X_blk (X_reg (XV rfl rfl rfl ?_))))
    refine XR_a (op_subI rfl rfl (by simp only [inK]; omega)) rfl rfl ?_
    refine XA rfl rfl rfl (XR_nil ?_)
    exact X_again i (.cons rfl (.cons rfl (.cons rfl (.cons rfl (.nil _))))) ⟨rfl, by omega⟩ (by omega)
   ·refine X_exit rfl (X_seq (X_reg (XV rfl rfl rfl (XA rfl rfl rfl (XA rfl rfl rfl (XR_nil ?_))))))
    refine X_ret (.cons (.tmp rfl) (.cons (.tmp rfl) .nil)) ?_
    have : i = 0 := by omega
    subst this
    exact ⟨rfl, rfl⟩
end Go.Bn
end

section
set_option linter.unusedVariables false
set_option linter.unusedSimpArgs false
set_option maxHeartbeats 4000000
set_option maxRecDepth 20000
namespace Go.Bn
open Go Proofs
theorem St.only {B : Nat} {h0 hp : Heap} {r : Res} : ∀ {rs : List Res}, St B h0 hp (r :: rs) → St B h0 hp [r]
 | [], s => s
 | _ :: _, s => (s.perm (List.Perm.swap _ _ _)).tail.only
@[reducible] def fdG (p : Nat) (A : Option Addr) (m c at_ : Nat) (bad : Bool) : Res := pt p 102 [.slice A m c, .int .i64 (at_ : Int), .bool bad]
theorem fnew_spec {m c : Nat} {A : Option Addr} {h0 : Heap} : Ret Try.prog 30 [.slice A m c] h0 fun v h' => ∃ p, v = .pointer (some ⟨p, 0, none⟩) ∧ St h0.size h0 h' [fdG p A m c 0 false] := by
 refine ret_of_X Try.func30 rfl rfl fun w0 hw0 => ?_
 simp only [argE, Nat.zero_add, Nat.reduceAdd]
 have st := St.start h0
 refine X_seq (X_reg (XA rfl rfl rfl (XR_nil (X_seq (X_reg (XV rfl rfl rfl ?_))))))
 refine XR_a (op_build (ps := [(0, .slice A m c)]) (cs := #[.slice A m c, .int .i64 0, .bool false]) rfl rfl) rfl rfl ?_
 refine XR_wa (opl_bx rfl rfl) rfl rfl rfl ?_
 rintro _ hp ⟨p, rfl, hnew⟩
 have st := st.new hnew
 refine XA rfl rfl rfl (XR_nil ?_)
 refine X_ret (.cons (.tmp rfl) .nil) ?_
 exact ⟨_, rfl, st⟩
theorem fok_spec {p : Nat} {b : Bool} {h0 : Heap} (c2 : cellH h0 ⟨p, 2, none⟩ = some (.bool b)) : Ret Try.prog 33 [.pointer (some ⟨p, 0, none⟩)] h0 fun v h' => v = .bool (!b) ∧ h0 = h' := by
 refine ret_of_X Try.func33 rfl rfl fun w0 hw0 => ?_
 simp only [argE, Nat.zero_add, Nat.reduceAdd]
 refine X_seq (X_reg (XA rfl rfl rfl (XR_nil (X_seq (X_reg (XV rfl rfl rfl ?_))))))
 refine XR_a (op_ptr_nnil rfl rfl rfl) rfl rfl ?_
 refine XV rfl rfl rfl (XV rfl rfl rfl (XR_a (op_nilCheck rfl) rfl rfl ?_))
 first | refine XR_a (op_field0 rfl rfl) rfl rfl ?_ | refine XR_a (op_fieldn rfl rfl) rfl rfl ?_
 refine XR_a (op_ld (by first | assumption | exact st.cell 0 rfl rfl | exact st.cell 1 rfl rfl | exact st.cell 2 rfl rfl | exact st.cell 3 rfl rfl) rfl rfl rfl) rfl rfl ?_
 refine XR_a (op_not rfl) rfl rfl ?_
 refine XR_a (op_pick_t rfl rfl) rfl rfl (XA rfl rfl rfl (XR_nil ?_))
 refine X_ret (.cons (.tmp rfl) .nil) ?_
 exact ⟨rfl, rfl⟩
theorem fleft_spec {p m c a : Nat} {A : Option Addr} {h0 : Heap} (c0 : cellH h0 ⟨p, 0, none⟩ = some (.slice A m c)) (c1 : cellH h0 ⟨p, 1, none⟩ = some (.int .i64 (a : Int))) (hm : m ≤ 1099511627776) (ha : a ≤ m) :
  Ret Try.prog 34 [.pointer (some ⟨p, 0, none⟩)] h0 fun v h' => v = .int .i64 (m - a : Nat) ∧ h0 = h' := by
 refine ret_of_X Try.func34 rfl rfl fun w0 hw0 => ?_
 simp only [argE, Nat.zero_add, Nat.reduceAdd]
 refine X_seq (X_reg (XA rfl rfl rfl (XR_nil (X_seq (X_seq (X_reg (XV rfl rfl rfl ?_)))))))
 refine XR_a (op_ptr_nil rfl rfl rfl) rfl rfl ?_
 refine XR_nil (X_else rfl (X_skip (X_seq ?_)))
 refine X_draw byKind (by kernel_rfl) (by kernel_rfl) ?_
 refine XV rfl rfl rfl (XR_a (op_nilCheck rfl) rfl rfl ?_)
 first | refine XR_a (op_field0 rfl rfl) rfl rfl ?_ | refine XR_a (op_fieldn rfl rfl) rfl rfl ?_
 refine XR_a (op_ld (by first | assumption | exact st.cell 0 rfl rfl | exact st.cell 1 rfl rfl | exact st.cell 2 rfl rfl | exact st.cell 3 rfl rfl) rfl rfl rfl) rfl rfl ?_
 refine XR_a (op_len rfl rfl rfl) rfl rfl ?_
 refine XV rfl rfl rfl (XR_a (op_nilCheck rfl) rfl rfl ?_)
 first | refine XR_a (op_field0 rfl rfl) rfl rfl ?_ | refine XR_a (op_fieldn rfl rfl) rfl rfl ?_
 refine XR_a (op_ld (by first | assumption | exact st.cell 0 rfl rfl | exact st.cell 1 rfl rfl | exact st.cell 2 rfl rfl | exact st.cell 3 rfl rfl) rfl rfl rfl) rfl rfl ?_
 first | refine XR_a (op_subN rfl rfl (by omega) (by simp only [inK]; omega)) rfl rfl ?_ | refine XR_a (op_subI rfl rfl (by simp only [inK]; omega)) rfl rfl ?_ | refine XR_a (op_sub rfl rfl) rfl rfl ?_
 refine XA rfl rfl rfl (XR_nil ?_)
 refine X_ret (.cons (.tmp rfl) .nil) ?_
 exact ⟨rfl, rfl⟩
theorem fnum_spec {B p m c a : Nat} {k : Int} {A : Option Addr} {l : List UInt8} {F : List Res} {h0 : Heap} (st : St B h0 h0 (fdG p A m c a false :: F)) (hr : Rd h0 A (l.map byteV)) (hl : l.length = m) (hm : m ≤ 1099511627776) (ha : a ≤ m) :
  Ret Try.prog 31 [.pointer (some ⟨p, 0, none⟩), .int .i64 k] h0 fun v h' =>
   v = .int .u32 (((getF l a k).getD 0 : Nat) : Int) ∧ St B h0 h' (fdG p A m c (if (getF l a k).isSome = true then a + wid k else a) (!(getF l a k).isSome) :: F) := by
 have hw := wid_le k
 refine ret_of_X Try.func31 rfl rfl fun w0 hw0 => ?_
 simp only [argE, Nat.zero_add, Nat.reduceAdd]
 refine X_seq (X_reg (XA rfl rfl rfl (XR_nil (X_seq (X_seq (X_reg (XV rfl rfl rfl ?_)))))))
 refine XR_wa (opl_call (fok_spec (st.cell 0 rfl rfl)) rfl (by kernel_rfl)) rfl rfl rfl ?_
 rintro _ _ ⟨rfl, rfl⟩
 refine XR_a (op_not rfl) rfl rfl ?_
 refine XR_nil (X_else rfl (X_skip (X_seq ?_)))
 refine X_draw byKind (by kernel_rfl) (by kernel_rfl) ?_
 refine XV rfl rfl rfl (XR_a (op_nilCheck rfl) rfl rfl ?_)
 first | refine XR_a (op_field0 rfl rfl) rfl rfl ?_ | refine XR_a (op_fieldn rfl rfl) rfl rfl ?_
 refine XR_a (op_ld (by first | assumption | exact st.cell 0 rfl rfl | exact st.cell 1 rfl rfl | exact st.cell 2 rfl rfl | exact st.cell 3 rfl rfl) rfl rfl rfl) rfl rfl ?_
 refine XV rfl rfl rfl (XR_a (op_nilCheck rfl) rfl rfl ?_)
 first | refine XR_a (op_field0 rfl rfl) rfl rfl ?_ | refine XR_a (op_fieldn rfl rfl) rfl rfl ?_
 refine XR_a (op_ld (by first | assumption | exact st.cell 0 rfl rfl | exact st.cell 1 rfl rfl | exact st.cell 2 rfl rfl | exact st.cell 3 rfl rfl) rfl rfl rfl) rfl rfl ?_
 refine XV rfl rfl rfl ?_
 refine XR_wa (opl_call (fget_spec hr hl (by omega) (by simp only [inK]; omega)) rfl (by kernel_rfl)) rfl rfl rfl ?_
 rintro _ _ ⟨rfl, rfl⟩
 refine XV rfl rfl rfl (XR_a (op_extract rfl rfl) rfl rfl (XR_a (op_extract rfl rfl) rfl rfl ?_))
 by_cases hg : (getF l a k).isSome = true
 ·refine XR_as (.bool true) (congrArg Value.bool hg) ?_
  refine XA rfl rfl rfl (XA rfl rfl rfl (XR_nil (X_seq (X_seq (X_reg (XV rfl rfl rfl ?_))))))
  refine XR_a (op_not rfl) rfl rfl ?_
  refine XR_nil (X_else rfl (X_skip (X_seq ?_)))
  refine X_draw (butAt [(5, .grow)]) (by kernel_rfl) (by kernel_rfl) ?_
  refine XV rfl rfl rfl (XR_a (op_nilCheck rfl) rfl rfl ?_)
  first | refine XR_a (op_field0 rfl rfl) rfl rfl ?_ | refine XR_a (op_fieldn rfl rfl) rfl rfl ?_
  refine XR_a (op_ld (by first | assumption | exact st.cell 0 rfl rfl | exact st.cell 1 rfl rfl | exact st.cell 2 rfl rfl | exact st.cell 3 rfl rfl) rfl rfl rfl) rfl rfl ?_
  refine XV rfl rfl rfl ?_
  refine XR_ga (opl_call (fwidth_spec _ _) rfl (by kernel_rfl)) rfl rfl rfl (fun _ _ h => h.2 ▸ Low.refl _ _) ?_
  rintro _ _ ⟨rfl, rfl⟩
  first | refine XR_a (op_addN rfl rfl (by simp only [inK]; omega)) rfl rfl ?_ | refine XR_a (op_addI rfl rfl (by simp only [inK]; omega)) rfl rfl ?_ | refine XR_a (op_add rfl rfl) rfl rfl ?_
  refine XR_a (op_nilCheck rfl) rfl rfl ?_
  first | refine XR_a (op_field0 rfl rfl) rfl rfl ?_ | refine XR_a (op_fieldn rfl rfl) rfl rfl ?_
  refine XR_wn (opl_store_pt st 0 rfl rfl rfl rfl rfl (rfl)) rfl rfl fun _ hp st => ?_
  simp only [List.set_cons_zero, List.set_cons_succ] at st
  refine XR_nil (X_seq (X_reg (XV rfl rfl rfl (XA rfl rfl rfl (XR_nil ?_)))))
  refine X_ret (.cons (.tmp rfl) .nil) ?_
  rw [if_pos hg, hg]
  exact ⟨rfl, st⟩
 ·refine XR_as (.bool false) (congrArg Value.bool (by simpa using hg)) ?_
  refine XA rfl rfl rfl (XA rfl rfl rfl (XR_nil (X_seq (X_seq (X_reg (XV rfl rfl rfl ?_))))))
  refine XR_a (op_not rfl) rfl rfl ?_
  refine XR_nil (X_then rfl (X_seq (X_reg (XV rfl rfl rfl (XR_a (op_nilCheck rfl) rfl rfl ?_)))))
  first | refine XR_a (op_field0 rfl rfl) rfl rfl ?_ | refine XR_a (op_fieldn rfl rfl) rfl rfl ?_
  refine XR_wn (opl_store_pt st 0 rfl rfl rfl rfl rfl (rfl)) rfl rfl fun _ hp st => ?_
  simp only [List.set_cons_zero, List.set_cons_succ] at st
  refine XR_nil (X_seq (X_reg (XA rfl rfl rfl (XR_nil ?_))))
  refine X_ret (.cons (.tmp rfl) .nil) ?_
  rw [Option.not_isSome_iff_eq_none] at hg
  rw [hg]
  exact ⟨rfl, st⟩
theorem fbytes_bad {p : Nat} {k : Value} {h0 : Heap} (c2 : cellH h0 ⟨p, 2, none⟩ = some (.bool true)) : Ret Try.prog 32 [.pointer (some ⟨p, 0, none⟩), k] h0 fun v h' => v = .slice none 0 0 ∧ h0 = h' := by
 refine ret_of_X Try.func32 rfl rfl fun w0 hw0 => ?_
 simp only [argE, Nat.zero_add, Nat.reduceAdd]
 refine X_seq (X_reg (XA rfl rfl rfl (XR_nil (X_seq (X_seq (X_reg (XV rfl rfl rfl ?_)))))))
 refine XR_wa (opl_call (fok_spec c2) rfl (by kernel_rfl)) rfl rfl rfl ?_
 rintro _ _ ⟨rfl, rfl⟩
 refine XR_a (op_not rfl) rfl rfl ?_
 refine XR_nil (X_then rfl (X_seq (X_reg (XA rfl rfl rfl (XR_nil ?_)))))
 refine X_ret (.cons (.tmp rfl) .nil) ?_
 exact ⟨rfl, rfl⟩
theorem fbytes_ok {B p m c a n : Nat} {A : Option Addr} {l : List UInt8} {F : List Res} {h0 : Heap} (st : St B h0 h0 (fdG p A m c a false :: F)) (hr : Rd h0 A (l.map byteV)) (hl : l.length = m) (hm : m ≤ 1099511627776) (hmc : m ≤ c) (hn : n + a ≤ m) :
  Ret Try.prog 32 [.pointer (some ⟨p, 0, none⟩), .int .i64 (n : Int)] h0 fun v h' => St B h0 h' (fdG p A m c (a + n) false :: row 5 1 v (((l.drop a).take n).map byteV) :: F) := by
 refine ret_of_X Try.func32 rfl rfl fun w0 hw0 => ?_
 simp only [argE, Nat.zero_add, Nat.reduceAdd]
 refine X_seq (X_reg (XA rfl rfl rfl (XR_nil (X_seq (X_seq (X_reg (XV rfl rfl rfl ?_)))))))
 refine XR_wa (opl_call (fok_spec (st.cell 0 rfl rfl)) rfl (by kernel_rfl)) rfl rfl rfl ?_
 rintro _ _ ⟨rfl, rfl⟩
 refine XR_a (op_not rfl) rfl rfl ?_
 refine XR_nil (X_else rfl (X_skip (X_seq (X_seq ?_))))
 refine X_draw byKind (by kernel_rfl) (by kernel_rfl) ?_
 refine XV rfl rfl rfl ?_
 refine XR_a (op_lss rfl rfl) rfl rfl ?_
 refine XR_as (.bool false) (congrArg Value.bool (decide_eq_false (by omega))) ?_
 refine XV rfl rfl rfl (XV rfl rfl rfl (XV rfl rfl rfl (XR_a (op_nilCheck rfl) rfl rfl ?_)))
 first | refine XR_a (op_field0 rfl rfl) rfl rfl ?_ | refine XR_a (op_fieldn rfl rfl) rfl rfl ?_
 refine XR_a (op_ld (by first | assumption | exact st.cell 0 rfl rfl | exact st.cell 1 rfl rfl | exact st.cell 2 rfl rfl | exact st.cell 3 rfl rfl) rfl rfl rfl) rfl rfl ?_
 refine XR_a (op_len rfl rfl rfl) rfl rfl ?_
 refine XV rfl rfl rfl (XR_a (op_nilCheck rfl) rfl rfl ?_)
 first | refine XR_a (op_field0 rfl rfl) rfl rfl ?_ | refine XR_a (op_fieldn rfl rfl) rfl rfl ?_
 refine XR_a (op_ld (by first | assumption | exact st.cell 0 rfl rfl | exact st.cell 1 rfl rfl | exact st.cell 2 rfl rfl | exact st.cell 3 rfl rfl) rfl rfl rfl) rfl rfl ?_
 first | refine XR_a (op_subN rfl rfl (by omega) (by simp only [inK]; omega)) rfl rfl ?_ | refine XR_a (op_subI rfl rfl (by simp only [inK]; omega)) rfl rfl ?_ | refine XR_a (op_sub rfl rfl) rfl rfl ?_
 refine XR_a (op_gtr rfl rfl) rfl rfl ?_
 refine XR_as (.bool false) (congrArg Value.bool (decide_eq_false (by omega))) ?_
 refine XR_a (op_pick_f rfl rfl) rfl rfl (XR_nil (X_else rfl (X_skip (X_seq (X_reg (XV rfl rfl rfl ?_))))))
 refine XR_wa (opl_mk (by omega) rfl rfl rfl) rfl rfl rfl ?_
 rintro v hp hnew
 have hxx := hnew.1
 replace st := st.new hnew
 obtain ⟨A2, n2, c2, rfl, hlen2, _, _, _⟩ := st.row 0 rfl
 have hn2 : n2 = n := by simpa using hlen2.symm
 subst hn2
 have hcut := (hr.ext hxx).cut a 1 c (m - a) (by intro hh; simp; omega)
 rw [Nat.mul_one, ← List.map_drop, ← List.map_take, List.take_of_length_le (i := m - a) (by rw [List.length_drop]; omega)] at hcut
 refine XA rfl rfl rfl (XR_nil (X_seq ?_))
 refine X_draw byKind (by kernel_rfl) (by kernel_rfl) ?_
 refine XV rfl rfl rfl (XV rfl rfl rfl (XR_a (op_nilCheck rfl) rfl rfl ?_))
 first | refine XR_a (op_field0 rfl rfl) rfl rfl ?_ | refine XR_a (op_fieldn rfl rfl) rfl rfl ?_
 refine XR_a (op_ld (by first | assumption | exact st.cell 0 rfl rfl | exact st.cell 1 rfl rfl | exact st.cell 2 rfl rfl | exact st.cell 3 rfl rfl) rfl rfl rfl) rfl rfl ?_
 refine XV rfl rfl rfl (XR_a (op_nilCheck rfl) rfl rfl ?_)
 first | refine XR_a (op_field0 rfl rfl) rfl rfl ?_ | refine XR_a (op_fieldn rfl rfl) rfl rfl ?_
 refine XR_a (op_ld (by first | assumption | exact st.cell 0 rfl rfl | exact st.cell 1 rfl rfl | exact st.cell 2 rfl rfl | exact st.cell 3 rfl rfl) rfl rfl rfl) rfl rfl ?_
 refine XR_a (op_slice_l rfl rfl rfl (by omega) (by omega)) rfl rfl ?_
 refine XR_wa (opl_copyW st 0 rfl hcut (by simp [hl]) (by simp) (one_bytes _) rfl rfl rfl rfl) rfl rfl rfl ?_
 rintro _ hp ⟨rfl, st⟩
 simp only [List.set_cons_zero, List.set_cons_succ, Nat.mul_one] at st
 rw [Nat.min_eq_right (by omega), show (List.replicate n2 (Value.int IntKind.u8 0)).drop n2 = [] by simp, List.append_nil, ← List.map_take] at st
 refine XR_nil (X_seq (X_reg (XV rfl rfl rfl (XR_a (op_nilCheck rfl) rfl rfl ?_))))
 first | refine XR_a (op_field0 rfl rfl) rfl rfl ?_ | refine XR_a (op_fieldn rfl rfl) rfl rfl ?_
 refine XR_a (op_ld (by first | assumption | exact st.cell 0 rfl rfl | exact st.cell 1 rfl rfl | exact st.cell 2 rfl rfl | exact st.cell 3 rfl rfl) rfl rfl rfl) rfl rfl ?_
 refine XV rfl rfl rfl ?_
 first | refine XR_a (op_addN rfl rfl (by simp only [inK]; omega)) rfl rfl ?_ | refine XR_a (op_addI rfl rfl (by simp only [inK]; omega)) rfl rfl ?_ | refine XR_a (op_add rfl rfl) rfl rfl ?_
 refine XR_a (op_nilCheck rfl) rfl rfl ?_
 first | refine XR_a (op_field0 rfl rfl) rfl rfl ?_ | refine XR_a (op_fieldn rfl rfl) rfl rfl ?_
 refine XR_wn (opl_store_pt st 1 rfl rfl rfl rfl rfl (rfl)) rfl rfl fun _ hp st => ?_
 simp only [List.set_cons_zero, List.set_cons_succ] at st
 refine XR_nil (X_seq (X_reg (XV rfl rfl rfl (XA rfl rfl rfl (XR_nil ?_)))))
 refine X_ret (.cons (.tmp rfl) .nil) ?_
 exact st.perm (List.Perm.swap _ _ _)
theorem fnum_at {B p m c a n : Nat} (a' : Nat) {k : Int} {A : Option Addr} {l : List UInt8} {F : List Res} {h0 : Heap} (st : St B h0 h0 (fdG p A m c a false :: F)) (hr : Rd h0 A (l.map byteV)) (hl : l.length = m) (hm : m ≤ 1099511627776) (ha : a ≤ m) (hg : getF l a k = some n) (ha' : a + wid k = a') :
  Ret Try.prog 31 [.pointer (some ⟨p, 0, none⟩), .int .i64 k] h0 fun v h' => v = .int .u32 (n : Int) ∧ St B h0 h' (fdG p A m c a' false :: F) := by
 have h := fnum_spec (k := k) st hr hl hm ha
 rw [hg] at h
 simp only [Option.isSome_some, if_true, Option.getD_some, Bool.not_true, ha'] at h
 exact h
theorem getF_at {l : List UInt8} {a : Nat} {k : Int} (h : a + wid k ≤ l.length) : getF l (a : Int) k = some (leV ((l.drop a).take (wid k))) := by
 unfold getF
 rw [if_pos (by omega)]; simp
end Go.Bn
end

section
set_option linter.unusedVariables false
set_option linter.unusedSimpArgs false
set_option maxHeartbeats 4000000
set_option maxRecDepth 20000
namespace Go.Bn
open Go Proofs
theorem wid2 : wid 2 = 2 := rfl
theorem fnum_fail {B p m c a : Nat} {k : Int} {A : Option Addr} {l : List UInt8} {F : List Res} {h0 : Heap} (st : St B h0 h0 (fdG p A m c a false :: F)) (hr : Rd h0 A (l.map byteV)) (hl : l.length = m) (hm : m ≤ 1099511627776) (ha : a ≤ m) (hg : getF l a k = none) :
  Ret Try.prog 31 [.pointer (some ⟨p, 0, none⟩), .int .i64 k] h0 fun v h' => v = .int .u32 0 ∧ St B h0 h' (fdG p A m c a true :: F) := by
 have h := fnum_spec (k := k) st hr hl hm ha
 rw [hg] at h
 exact h
theorem getF_short {l : List UInt8} {a : Nat} {k : Int} (h : l.length < a + wid k) : getF l (a : Int) k = none := by
 unfold getF
 rw [if_neg (by omega)]
theorem fbytes_long {B p m c a n : Nat} {A : Option Addr} {F : List Res} {h0 : Heap} (st : St B h0 h0 (fdG p A m c a false :: F)) (hm : m ≤ 1099511627776) (ha : a ≤ m) (hn : m < a + n) :
  Ret Try.prog 32 [.pointer (some ⟨p, 0, none⟩), .int .i64 (n : Int)] h0 fun v h' => v = .slice none 0 0 ∧ St B h0 h' (fdG p A m c a true :: F) := by
 refine ret_of_X Try.func32 rfl rfl fun w0 hw0 => ?_
 simp only [argE, Nat.zero_add, Nat.reduceAdd]
 refine X_seq (X_reg (XA rfl rfl rfl (XR_nil (X_seq (X_seq (X_reg (XV rfl rfl rfl ?_)))))))
 refine XR_wa (opl_call (fok_spec (st.cell 0 rfl rfl)) rfl (by kernel_rfl)) rfl rfl rfl ?_
 rintro _ _ ⟨rfl, rfl⟩
 refine XR_a (op_not rfl) rfl rfl ?_
 refine XR_nil (X_else rfl (X_skip (X_seq (X_seq ?_))))
 refine X_draw byKind (by kernel_rfl) (by kernel_rfl) ?_
 refine XV rfl rfl rfl ?_
 refine XR_a (op_lss rfl rfl) rfl rfl ?_
 refine XR_as (.bool false) (congrArg Value.bool (decide_eq_false (by omega))) ?_
 refine XV rfl rfl rfl (XV rfl rfl rfl (XV rfl rfl rfl (XR_a (op_nilCheck rfl) rfl rfl ?_)))
 first | refine XR_a (op_field0 rfl rfl) rfl rfl ?_ | refine XR_a (op_fieldn rfl rfl) rfl rfl ?_
 refine XR_a (op_ld (by first | assumption | exact st.cell 0 rfl rfl | exact st.cell 1 rfl rfl | exact st.cell 2 rfl rfl | exact st.cell 3 rfl rfl) rfl rfl rfl) rfl rfl ?_
 refine XR_a (op_len rfl rfl rfl) rfl rfl ?_
 refine XV rfl rfl rfl (XR_a (op_nilCheck rfl) rfl rfl ?_)
 first | refine XR_a (op_field0 rfl rfl) rfl rfl ?_ | refine XR_a (op_fieldn rfl rfl) rfl rfl ?_
 refine XR_a (op_ld (by first | assumption | exact st.cell 0 rfl rfl | exact st.cell 1 rfl rfl | exact st.cell 2 rfl rfl | exact st.cell 3 rfl rfl) rfl rfl rfl) rfl rfl ?_
 first | refine XR_a (op_subN rfl rfl (by omega) (by simp only [inK]; omega)) rfl rfl ?_ | refine XR_a (op_subI rfl rfl (by simp only [inK]; omega)) rfl rfl ?_ | refine XR_a (op_sub rfl rfl) rfl rfl ?_
 refine XR_a (op_gtr rfl rfl) rfl rfl ?_
 refine XR_as (.bool true) (congrArg Value.bool (decide_eq_true (by omega))) ?_
 refine XR_a (op_pick_f rfl rfl) rfl rfl (XR_nil (X_then rfl (X_seq (X_reg (XV rfl rfl rfl (XR_a (op_nilCheck rfl) rfl rfl ?_))))))
 first | refine XR_a (op_field0 rfl rfl) rfl rfl ?_ | refine XR_a (op_fieldn rfl rfl) rfl rfl ?_
 refine XR_wn (opl_store_pt st 0 rfl rfl rfl rfl rfl (rfl)) rfl rfl fun _ hp st => ?_
 simp only [List.set_cons_zero, List.set_cons_succ] at st
 refine XR_nil (X_seq (X_reg (XA rfl rfl rfl (XR_nil ?_))))
 refine X_ret (.cons (.tmp rfl) .nil) ?_
 exact ⟨rfl, st⟩
theorem pieces_spec {m c : Nat} {A : Option Addr} {l : List UInt8} {h0 : Heap} (hr : Rd h0 A (l.map byteV)) (hl : l.length = m) (hm : m ≤ 1099511627776) (hmc : m ≤ c) :
    Ret Try.prog 12 [.slice A m c] h0 fun v h' => ∃ v1, v = retVal [v1, .int .i64 (pieces l).2] ∧ St h0.size h0 h' [row 5 1 v1 ((pieces l).1.map byteV)] := by
  have hp0 : piecesF (m - 0 + 1) (l.drop 0) [] = pieces l := by rw [← hl]; rfl
  refine ret_of_X Try.func12 rfl rfl fun w0 hw0 => ?_
  simp only [argE, Nat.zero_add, Nat.reduceAdd]
  refine X_seq ?_
  refine X_reg ?_
  refine XR_a (op_assign rfl) rfl rfl ?_
  refine XR_a (op_assign rfl) rfl rfl ?_
  refine XR_nil ?_
  refine X_seq ?_
  refine X_reg ?_
  refine XR_a (op_move rfl) rfl rfl ?_
  refine XR_wa (opl_call (fnew_spec) rfl (by kernel_rfl)) rfl rfl rfl ?_
  rintro _ hp ⟨pr, rfl, st⟩
  refine XR_a (op_assign rfl) rfl rfl ?_
  refine XR_nil ?_
  refine X_seq ?_
  refine X_reg ?_
  refine XR_a (op_assign rfl) rfl rfl ?_
  refine XR_nil ?_
  refine X_block ?_
  replace st := st.nilrow 5 1
  refine X_loop (fun s => m - s.1) (fun s => [(4, .pointer (some ⟨pr, 0, none⟩)), (5, s.2.1)])
    (fun (s : Nat × Value × List UInt8) hp => St h0.size h0 hp [row 5 1 s.2.1 (s.2.2.map byteV), fdG pr A m c s.1 false] ∧ s.1 ≤ m ∧ s.2.2.length ≤ s.1 ∧ piecesF (m - s.1 + 1) (l.drop s.1) s.2.2 = pieces l)
    (0, _, []) (.cons rfl (.cons rfl (.nil _))) ⟨st, by simp, by simp, hp0⟩ ?_
  clear st hp0
  rintro ⟨a, v, out⟩ hp ⟨st, ha, hout, hpp⟩
  simp only at st ha hout hpp ⊢
  replace st := st.perm (List.Perm.swap _ _ _)
  refine X_block ?_
  refine X_seq ?_
  refine X_reg ?_
  refine XR_a (op_move rfl) rfl rfl ?_
  by_cases h2 : a + 2 ≤ m
  · refine XR_wa (opl_call (fnum_at (a + 2) (n := leV ((l.drop a).take 2)) st.here (hr.ext st.low) hl hm ha (getF_at (by rw [wid2, hl]; exact h2)) (by rw [wid2])) rfl (by kernel_rfl)) rfl rfl rfl ?_
    rintro _ hp ⟨rfl, st2⟩
    replace st := st.trans st2
    have hn16 : leV ((l.drop a).take 2) < 65536 := Nat.lt_of_lt_of_le (leV_lt _) (Nat.le_trans (Nat.pow_le_pow_right (by omega) (show _ ≤ 2 by rw [List.length_take]; omega)) (by decide))
    have hstep := piecesF_step (out := out) (n := leV ((l.drop a).take 2)) hl h2 rfl
    have hlong := piecesF_long (out := out) (n := leV ((l.drop a).take 2)) hl h2 rfl
    have hmore := fun q => piecesF_more (out := out) (a := a) hl q
    have hdone := fun q => piecesF_done (out := out) (a := a) hl q
    generalize leV ((l.drop a).take 2) = n at *
    first | refine XR_a (op_convI rfl rfl (by simp only [inK]; omega)) rfl rfl ?_ | refine XR_a (op_conv rfl rfl) rfl rfl ?_
    refine XR_a (op_assign rfl) rfl rfl ?_
    refine XR_nil ?_
    refine X_seq ?_
    refine X_reg ?_
    refine XR_a (op_move rfl) rfl rfl ?_
    refine XR_a (op_move rfl) rfl rfl ?_
    by_cases h3 : a + 2 + n ≤ m
    · refine XR_wa (opl_call (fbytes_ok (n := n) st.here (hr.ext st.low) hl hm hmc (by omega)) rfl (by kernel_rfl)) rfl rfl rfl ?_
      rintro w hp st2
      replace st := st.trans st2
      obtain ⟨A7, n7, c7, rfl, hlen7, _, _, hrd7⟩ := st.row 1 rfl
      refine XR_a (op_assign rfl) rfl rfl ?_
      refine XR_nil ?_
      refine X_seq ?_
      refine X_block ?_
      refine X_seq ?_
      refine X_reg ?_
      refine XR_a (op_move rfl) rfl rfl ?_
      refine XR_wa (opl_call (fok_spec (st.cell 0 rfl rfl)) rfl (by kernel_rfl)) rfl rfl rfl ?_
      rintro _ _ ⟨rfl, rfl⟩
      refine XR_a (op_not rfl) rfl rfl ?_
      refine XR_a (op_assign rfl) rfl rfl ?_
      refine XR_nil ?_
      refine X_else rfl ?_
      refine X_seq ?_
      refine X_reg ?_
      refine XR_a (op_move rfl) rfl rfl ?_
      refine XR_a (op_eql rfl rfl) rfl rfl ?_
      refine XR_a (op_move rfl) rfl rfl ?_
      refine XR_if 23 rfl (fun h => ?_) (fun h => ?_)
      · refine XR_a (op_move rfl) rfl rfl ?_
        refine XR_wa (opl_call (fleft_spec (st.cell 0 rfl rfl) (st.cell 0 rfl rfl) hm (by omega)) rfl (by kernel_rfl)) rfl rfl rfl ?_
        rintro _ _ ⟨rfl, rfl⟩
        refine XR_a (op_gtr rfl rfl) rfl rfl ?_
        refine XR_a (op_pick_t rfl rfl) rfl rfl ?_
        refine XR_a (op_assign rfl) rfl rfl ?_
        refine XR_nil ?_
        refine X_if rfl (fun h => ?_) (fun h => ?_)
        · refine X_seq ?_
          refine X_reg ?_
          refine XR_a (op_assign rfl) rfl rfl ?_
          refine XR_a (op_assign rfl) rfl rfl ?_
          refine XR_nil ?_
          refine X_ret (.cons (.tmp rfl) (.cons (.tmp rfl) .nil)) ?_
          rw [hmore (by omega) (by omega)] at hpp
          refine ⟨_, by rw [← hpp], ?_⟩
          rw [← hpp]
          exact (st.nilrow 5 1).only
        · refine X_seq ?_
          refine X_reg ?_
          refine XR_a (op_move rfl) rfl rfl ?_
          refine XR_a (op_eql rfl rfl) rfl rfl ?_
          refine XR_a (op_assign rfl) rfl rfl ?_
          refine XR_nil ?_
          refine X_if rfl (fun h => ?_) (fun h => ?_)
          · refine X_seq ?_
            refine X_reg ?_
            refine XR_a (op_move rfl) rfl rfl ?_
            refine XR_a (op_assign rfl) rfl rfl ?_
            refine XR_a (op_assign rfl) rfl rfl ?_
            refine XR_nil ?_
            refine X_ret (.cons (.tmp rfl) (.cons (.tmp rfl) .nil)) ?_
            first
              | (exfalso; omega)
              | (rw [hdone (by omega) (by omega)] at hpp
                 refine ⟨_, by rw [← hpp], ?_⟩
                 rw [← hpp]
                 exact st.tail.tail)
          · refine X_skip ?_
            refine X_blk ?_
            refine X_reg ?_
            refine XR_a (op_move rfl) rfl rfl ?_
            refine XR_a (op_move rfl) rfl rfl ?_
            refine XR_wa (opl_append st 2 rfl (hrd7) (hlen7) (one_bytes _) (by simp; omega) rfl rfl rfl rfl rfl rfl rfl) rfl rfl rfl fun v hp st => ?_
            simp only [List.set_cons_zero, List.set_cons_succ] at st
            refine XR_a (op_assign rfl) rfl rfl ?_
            refine XR_nil ?_
            refine X_blk ?_
            rw [hstep h3 (by omega)] at hpp
            rw [← List.map_append] at st
            refine X_again (a + 2 + n, v, out ++ (l.drop (a + 2)).take n) (.cons rfl (.cons rfl (.nil _))) ⟨(st.perm (List.Perm.swap _ _ _)).tail.perm (List.Perm.swap _ _ _), h3, ?_, hpp⟩ (by simp only; omega)
            simp only [List.length_append, List.length_take]
            omega
      · refine XR_no rfl rfl ?_
        refine XR_no rfl rfl ?_
        refine XR_no rfl rfl ?_
        refine XR_a (op_pick_f rfl rfl) rfl rfl ?_
        refine XR_a (op_assign rfl) rfl rfl ?_
        refine XR_nil ?_
        refine X_else rfl ?_
        refine X_seq ?_
        refine X_reg ?_
        refine XR_a (op_move rfl) rfl rfl ?_
        refine XR_a (op_eql rfl rfl) rfl rfl ?_
        refine XR_a (op_assign rfl) rfl rfl ?_
        refine XR_nil ?_
        refine X_if rfl (fun h => ?_) (fun h => ?_)
        · refine X_seq ?_
          refine X_reg ?_
          refine XR_a (op_move rfl) rfl rfl ?_
          refine XR_a (op_assign rfl) rfl rfl ?_
          refine XR_a (op_assign rfl) rfl rfl ?_
          refine XR_nil ?_
          refine X_ret (.cons (.tmp rfl) (.cons (.tmp rfl) .nil)) ?_
          first
            | (exfalso; omega)
            | (rw [hdone (by omega) (by omega)] at hpp
               refine ⟨_, by rw [← hpp], ?_⟩
               rw [← hpp]
               exact st.tail.tail)
        · refine X_skip ?_
          refine X_blk ?_
          refine X_reg ?_
          refine XR_a (op_move rfl) rfl rfl ?_
          refine XR_a (op_move rfl) rfl rfl ?_
          refine XR_wa (opl_append st 2 rfl (hrd7) (hlen7) (one_bytes _) (by simp; omega) rfl rfl rfl rfl rfl rfl rfl) rfl rfl rfl fun v hp st => ?_
          simp only [List.set_cons_zero, List.set_cons_succ] at st
          refine XR_a (op_assign rfl) rfl rfl ?_
          refine XR_nil ?_
          refine X_blk ?_
          rw [hstep h3 (by omega)] at hpp
          rw [← List.map_append] at st
          refine X_again (a + 2 + n, v, out ++ (l.drop (a + 2)).take n) (.cons rfl (.cons rfl (.nil _))) ⟨(st.perm (List.Perm.swap _ _ _)).tail.perm (List.Perm.swap _ _ _), h3, ?_, hpp⟩ (by simp only; omega)
          simp only [List.length_append, List.length_take]
          omega
    · refine XR_wa (opl_call (fbytes_long (n := n) st.here hm (by omega) (by omega)) rfl (by kernel_rfl)) rfl rfl rfl ?_
      rintro _ hp ⟨rfl, st2⟩
      replace st := st.trans st2
      refine XR_a (op_assign rfl) rfl rfl ?_
      refine XR_nil ?_
      refine X_seq ?_
      refine X_block ?_
      refine X_seq ?_
      refine X_reg ?_
      refine XR_a (op_move rfl) rfl rfl ?_
      refine XR_wa (opl_call (fok_spec (st.cell 0 rfl rfl)) rfl (by kernel_rfl)) rfl rfl rfl ?_
      rintro _ _ ⟨rfl, rfl⟩
      refine XR_a (op_not rfl) rfl rfl ?_
      refine XR_a (op_assign rfl) rfl rfl ?_
      refine XR_nil ?_
      refine X_then rfl ?_
      refine X_seq ?_
      refine X_reg ?_
      refine XR_a (op_assign rfl) rfl rfl ?_
      refine XR_a (op_assign rfl) rfl rfl ?_
      refine XR_nil ?_
      refine X_ret (.cons (.tmp rfl) (.cons (.tmp rfl) .nil)) ?_
      rw [hlong (by omega)] at hpp
      refine ⟨_, by rw [← hpp], ?_⟩
      rw [← hpp]
      exact (st.nilrow 5 1).only
  · refine XR_wa (opl_call (fnum_fail st.here (hr.ext st.low) hl hm ha (getF_short (by rw [wid2, hl]; omega))) rfl (by kernel_rfl)) rfl rfl rfl ?_
    rintro _ hp ⟨rfl, st2⟩
    replace st := st.trans st2
    first | refine XR_a (op_convI rfl rfl (by simp only [inK]; omega)) rfl rfl ?_ | refine XR_a (op_conv rfl rfl) rfl rfl ?_
    refine XR_a (op_assign rfl) rfl rfl ?_
    refine XR_nil ?_
    refine X_seq ?_
    refine X_reg ?_
    refine XR_a (op_move rfl) rfl rfl ?_
    refine XR_a (op_move rfl) rfl rfl ?_
    refine XR_wa (opl_call (fbytes_bad (st.cell 0 rfl rfl)) rfl (by kernel_rfl)) rfl rfl rfl ?_
    rintro _ _ ⟨rfl, rfl⟩
    refine XR_a (op_assign rfl) rfl rfl ?_
    refine XR_nil ?_
    refine X_seq ?_
    refine X_block ?_
    refine X_seq ?_
    refine X_reg ?_
    refine XR_a (op_move rfl) rfl rfl ?_
    refine XR_wa (opl_call (fok_spec (st.cell 0 rfl rfl)) rfl (by kernel_rfl)) rfl rfl rfl ?_
    rintro _ _ ⟨rfl, rfl⟩
    refine XR_a (op_not rfl) rfl rfl ?_
    refine XR_a (op_assign rfl) rfl rfl ?_
    refine XR_nil ?_
    refine X_then rfl ?_
    refine X_seq ?_
    refine X_reg ?_
    refine XR_a (op_assign rfl) rfl rfl ?_
    refine XR_a (op_assign rfl) rfl rfl ?_
    refine XR_nil ?_
    refine X_ret (.cons (.tmp rfl) (.cons (.tmp rfl) .nil)) ?_
    rw [piecesF_short hl (by omega) ha] at hpp
    refine ⟨_, by rw [← hpp], ?_⟩
    rw [← hpp]
    exact (st.nilrow 5 1).only
theorem pieces_ref {m c : Nat} {A : Option Addr} {l : List UInt8} {h0 : Heap} (hr : Rd h0 A (l.map byteV)) (hl : l.length = m) (hm : m ≤ 1099511627776) (hmc : m ≤ c) :
  Ret Try.prog 13 [.slice A m c] h0 fun v h' => ∃ v1, v = retVal [v1, .int .i64 (pieces l).2] ∧ St h0.size h0 h' [row 5 1 v1 ((pieces l).1.map byteV)] := by
 have hp0 : piecesF (m - 0 + 1) (l.drop 0) [] = pieces l := by rw [← hl]; rfl
 refine ret_of_X Try.func13 rfl rfl fun w0 hw0 => ?_
 simp only [argE, Nat.zero_add, Nat.reduceAdd]
 refine X_seq (X_reg (XA rfl rfl rfl (XA rfl rfl rfl (XR_nil (X_seq (X_reg (XA rfl rfl rfl (XR_nil (X_seq ?_)))))))))
 refine X_reg (XA rfl rfl rfl (XR_nil (X_seq (X_block ?_))))
 have st := (St.start h0).nilrow 5 1
 refine X_loop (fun s => m - s.1) (fun s => [(0, .slice A m c), (4, s.2.1), (5, .int .i64 (s.1 : Int))])
  (fun (s : Nat × Value × List UInt8) hp => St h0.size h0 hp [row 5 1 s.2.1 (s.2.2.map byteV)] ∧ s.1 ≤ m ∧ s.2.2.length ≤ s.1 ∧ piecesF (m - s.1 + 1) (l.drop s.1) s.2.2 = pieces l)
  (0, _, []) (.cons rfl (.cons rfl (.cons rfl (.nil _)))) ⟨st, by simp, by simp, hp0⟩ ?_
 clear st hp0
 rintro ⟨a, v, out⟩ hp ⟨st, ha, hout, hpp⟩
 simp only at st ha hout hpp ⊢
 refine X_seq (X_seq (X_reg (XV rfl rfl rfl ?_)))
 refine XR_a (op_len rfl rfl rfl) rfl rfl ?_
 refine XV rfl rfl rfl ?_
 first | refine XR_a (op_subN rfl rfl (by omega) (by simp only [inK]; omega)) rfl rfl ?_ | refine XR_a (op_subI rfl rfl (by simp only [inK]; omega)) rfl rfl ?_ | refine XR_a (op_sub rfl rfl) rfl rfl ?_
 refine XR_a (op_geq rfl rfl) rfl rfl ?_
 refine XR_nil ?_
 refine X_if rfl (fun h => ?_) (fun h => ?_)
 ·have h2 : a + 2 ≤ m := by omega
  obtain ⟨b, o, rfl, hc⟩ := (hr.ext st.low).at_ (by rw [List.length_map]; omega)
  have hca := hc a (byteV l[a]) (by simp [show a < l.length by omega])
  have hcb := hc (a + 1) (byteV l[a + 1]) (by simp [show a + 1 < l.length by omega])
  have hn2 := leV2 (l := l) (a := a) (by omega)
  have xa := (l[a]).toNat_lt
  have xb := (l[a + 1]).toNat_lt
  have hstep := piecesF_step (out := out) (n := leV ((l.drop a).take 2)) hl h2 rfl
  have hlong := piecesF_long (out := out) (n := leV ((l.drop a).take 2)) hl h2 rfl
  have hmore := fun q => piecesF_more (out := out) (a := a) hl q
  have hdone := fun q => piecesF_done (out := out) (a := a) hl q
  generalize leV ((l.drop a).take 2) = n at *
  generalize l[a] = ya at *
  generalize l[a + 1] = yb at *
  refine X_skip (X_block (X_seq ?_))
  refine X_draw byKind (by kernel_rfl) (by kernel_rfl) ?_
  refine XV rfl rfl rfl (XV rfl rfl rfl ?_)
  first | refine XR_a (op_index1 rfl rfl rfl (by omega)) rfl rfl ?_ | refine XR_a (op_index rfl rfl rfl (by omega)) rfl rfl ?_
  refine XR_a (op_ld (hca) rfl rfl rfl) rfl rfl ?_
  first | refine XR_a (op_convI rfl rfl (by simp only [inK]; omega)) rfl rfl ?_ | refine XR_a (op_conv rfl rfl) rfl rfl ?_
  refine XV rfl rfl rfl (XV rfl rfl rfl ?_)
  first | refine XR_a (op_addN (n := 1) rfl rfl (by simp only [inK]; omega)) rfl rfl ?_ | refine XR_a (op_addI rfl rfl (by simp only [inK]; omega)) rfl rfl ?_ | refine XR_a (op_add rfl rfl) rfl rfl ?_
  first | refine XR_a (op_index1 rfl rfl rfl (by omega)) rfl rfl ?_ | refine XR_a (op_index rfl rfl rfl (by omega)) rfl rfl ?_
  refine XR_a (op_ld (hcb) rfl rfl rfl) rfl rfl ?_
  first | refine XR_a (op_convI rfl rfl (by simp only [inK]; omega)) rfl rfl ?_ | refine XR_a (op_conv rfl rfl) rfl rfl ?_
  refine XR_a (op_mulN (m := 256) rfl rfl (by simp only [inK]; omega)) rfl rfl ?_
  first | refine XR_a (op_addN rfl rfl (by simp only [inK]; omega)) rfl rfl ?_ | refine XR_a (op_addI rfl rfl (by simp only [inK]; omega)) rfl rfl ?_ | refine XR_a (op_add rfl rfl) rfl rfl ?_
  rw [← hn2]
  refine XA rfl rfl rfl (XR_nil (X_seq (X_reg (XV rfl rfl rfl ?_))))
  first | refine XR_a (op_addN (n := 2) rfl rfl (by simp only [inK]; omega)) rfl rfl ?_ | refine XR_a (op_addI rfl rfl (by simp only [inK]; omega)) rfl rfl ?_ | refine XR_a (op_add rfl rfl) rfl rfl ?_
  refine XA rfl rfl rfl (XR_nil (X_seq (X_seq (X_reg (XV rfl rfl rfl ?_)))))
  refine XR_a (op_eql rfl rfl) rfl rfl ?_
  refine XR_nil ?_
  refine X_if rfl (fun h => ?_) (fun h => ?_)
  ·refine X_seq (X_seq (X_reg (XV rfl rfl rfl (XV rfl rfl rfl ?_))))
   refine XR_a (op_len rfl rfl rfl) rfl rfl ?_
   refine XR_a (op_lss rfl rfl) rfl rfl ?_
   refine XR_nil ?_
   refine X_if rfl (fun h => ?_) (fun h => ?_)
   ·refine X_seq (X_reg (XA rfl rfl rfl (XA rfl rfl rfl (XR_nil ?_))))
    refine X_ret (.cons (.tmp rfl) (.cons (.tmp rfl) .nil)) ?_
    rw [hmore (by omega) (by omega)] at hpp
    refine ⟨_, by rw [← hpp], ?_⟩
    rw [← hpp]
    exact (st.nilrow 5 1).only
   ·refine X_skip (X_seq (X_reg (XV rfl rfl rfl (XA rfl rfl rfl (XA rfl rfl rfl (XR_nil ?_))))))
    refine X_ret (.cons (.tmp rfl) (.cons (.tmp rfl) .nil)) ?_
    rw [hdone (by omega) (by omega)] at hpp
    refine ⟨_, by rw [← hpp], ?_⟩
    rw [← hpp]
    exact st
  ·refine X_skip (X_seq (X_seq (X_reg (XV rfl rfl rfl (XV rfl rfl rfl ?_)))))
   refine XR_a (op_len rfl rfl rfl) rfl rfl ?_
   refine XV rfl rfl rfl ?_
   first | refine XR_a (op_subN rfl rfl (by omega) (by simp only [inK]; omega)) rfl rfl ?_ | refine XR_a (op_subI rfl rfl (by simp only [inK]; omega)) rfl rfl ?_ | refine XR_a (op_sub rfl rfl) rfl rfl ?_
   refine XR_a (op_gtr rfl rfl) rfl rfl ?_
   refine XR_nil ?_
   refine X_if rfl (fun h => ?_) (fun h => ?_)
   ·refine X_seq (X_reg (XA rfl rfl rfl (XA rfl rfl rfl (XR_nil ?_))))
    refine X_ret (.cons (.tmp rfl) (.cons (.tmp rfl) .nil)) ?_
    rw [hlong (by omega)] at hpp
    refine ⟨_, by rw [← hpp], ?_⟩
    rw [← hpp]
    exact (st.nilrow 5 1).only
   ·refine X_skip (X_seq (X_reg (XV rfl rfl rfl (XV rfl rfl rfl (XV rfl rfl rfl (XV rfl rfl rfl (XV rfl rfl rfl ?_)))))))
    first | refine XR_a (op_addN rfl rfl (by simp only [inK]; omega)) rfl rfl ?_ | refine XR_a (op_addI rfl rfl (by simp only [inK]; omega)) rfl rfl ?_ | refine XR_a (op_add rfl rfl) rfl rfl ?_
    refine XR_a (op_slice rfl rfl rfl rfl (by omega) (by omega)) rfl rfl ?_
    have hcut := (hr.ext st.low).cut (a + 2) 1 c n (by intro hh; simp; omega)
    rw [Nat.mul_one, ← List.map_drop, ← List.map_take] at hcut
    refine XR_wa (opl_append st 0 rfl (hcut) (by simp; omega) (one_bytes _) (by simp; omega) rfl rfl rfl rfl rfl rfl rfl) rfl rfl rfl fun v hp st => ?_
    simp only [List.set_cons_zero, List.set_cons_succ] at st
    refine XA rfl rfl rfl (XR_nil (X_reg (XV rfl rfl rfl (XV rfl rfl rfl ?_))))
    first | refine XR_a (op_addN rfl rfl (by simp only [inK]; omega)) rfl rfl ?_ | refine XR_a (op_addI rfl rfl (by simp only [inK]; omega)) rfl rfl ?_ | refine XR_a (op_add rfl rfl) rfl rfl ?_
    refine XA rfl rfl rfl (XR_nil (X_blk ?_))
    rw [hstep (by omega) (by omega)] at hpp
    rw [← List.map_append] at st
    refine X_again (a + 2 + n, v, out ++ (l.drop (a + 2)).take n) (.cons rfl (.cons rfl (.cons rfl (.nil _)))) ⟨st, by simp only; omega, ?_, hpp⟩ (by simp only; omega)
    simp only [List.length_append, List.length_take]
    omega
 ·refine X_exit rfl (X_seq (X_reg (XA rfl rfl rfl (XA rfl rfl rfl (XR_nil ?_)))))
  refine X_ret (.cons (.tmp rfl) (.cons (.tmp rfl) .nil)) ?_
  rw [piecesF_short hl (by omega) ha] at hpp
  refine ⟨_, by rw [← hpp], ?_⟩
  rw [← hpp]
  exact (st.nilrow 5 1).only
end Go.Bn
end

section
set_option linter.unusedVariables false
set_option linter.unusedSimpArgs false
set_option maxHeartbeats 4000000
set_option maxRecDepth 20000
namespace Go.Bn
open Go Proofs
noncomputable def packP (b : List UInt8) (lv : Int) : Nat × List UInt8 :=
  if 0 ≤ lv ∧ (pack (blockB ((splitL b lv).map splitY))).length < b.length then (1, pack (blockB ((splitL b lv).map splitY))) else (0, b)
theorem splitL_blen {b : List UInt8} (lv : Int) (hb : b.length ≤ 65536) : (blockB ((splitL b lv).map splitY)).length ≤ 7000 + 94 * b.length := by
 obtain ⟨hR, hby, _, _, hle, _⟩ := splitL_ok (b := b) lv hb
 have := blockB_len (split_b30 hR hby)
 rw [List.length_map] at this
 omega
theorem csmall_spec (x : Int) (h0 : Heap) : Ret Try.prog 24 [.int .i64 x] h0 fun v h' => v = .bool (decide (0 ≤ x ∧ x ≤ 65536)) ∧ h0 = h' := by
 refine ret_of_X Try.func24 rfl rfl fun w0 hw0 => ?_
 simp only [argE, Nat.zero_add, Nat.reduceAdd]
 refine X_seq (X_reg (XA rfl rfl rfl (XR_nil (X_seq (X_reg (XV rfl rfl rfl ?_))))))
 refine XR_a (op_geq rfl rfl) rfl rfl ?_
 refine XV rfl rfl rfl ?_
 refine XR_if 5 rfl (fun h => ?_) (fun h => ?_)
 ·refine XV rfl rfl rfl ?_
  refine XR_a (op_leq rfl rfl) rfl rfl ?_
  refine XR_a (op_pick_t rfl rfl) rfl rfl (XA rfl rfl rfl (XR_nil ?_))
  refine X_ret (.cons (.tmp rfl) .nil) ?_
  first
   | exact ⟨congrArg Value.bool (decide_eq_decide.2 ⟨fun hh => by omega, fun hh => by omega⟩), rfl⟩
   | exact ⟨congrArg Value.bool (decide_eq_false (by omega)).symm, rfl⟩
 ·refine XR_no rfl rfl (XR_no rfl rfl (XR_a (op_pick_f rfl rfl) rfl rfl (XA rfl rfl rfl (XR_nil ?_))))
  refine X_ret (.cons (.tmp rfl) .nil) ?_
  first
   | exact ⟨congrArg Value.bool (decide_eq_decide.2 ⟨fun hh => by omega, fun hh => by omega⟩), rfl⟩
   | exact ⟨congrArg Value.bool (decide_eq_false (by omega)).symm, rfl⟩
theorem cpack_big {n c : Nat} {lv : Int} {A : Option Addr} {h0 : Heap} (hn : 65536 < n) : Ret Try.prog 7 [.slice A n c, .int .i64 lv] h0 fun v h' => v = retVal [nV 0, .slice none 0 0, nV 5] ∧ h0 = h' := by
 refine ret_of_X Try.func7 rfl rfl fun w0 hw0 => ?_
 simp only [argE, Nat.zero_add, Nat.reduceAdd]
 refine X_seq (X_reg (XA rfl rfl rfl (XA rfl rfl rfl (XA rfl rfl rfl (XR_nil (X_seq (X_seq (X_reg (XV rfl rfl rfl ?_)))))))))
 refine XR_a (op_len rfl rfl rfl) rfl rfl ?_
 refine XR_wa (opl_call (csmall_spec _ _) rfl (by kernel_rfl)) rfl rfl rfl ?_
 rintro _ _ ⟨rfl, rfl⟩
 rw [decide_eq_false (by omega)]
 refine XR_a (op_not rfl) rfl rfl ?_
 refine XR_as (.bool true) rfl ?_
 refine XR_nil (X_then rfl (X_seq (X_reg (XA rfl rfl rfl (XA rfl rfl rfl (XA rfl rfl rfl (XR_nil ?_)))))))
 refine X_ret (.cons (.tmp rfl) (.cons (.tmp rfl) (.cons (.tmp rfl) .nil))) ?_
 exact ⟨rfl, rfl⟩
theorem cpack_spec {n c : Nat} {lv : Int} {A : Option Addr} {b : List UInt8} {h0 : Heap} (hr : Rd h0 A (b.map byteV)) (hl : b.length = n) (hn : n ≤ 65536) :
  Ret Try.prog 7 [.slice A n c, .int .i64 lv] h0 fun v h' => ∃ w, v = retVal [nV (packP b lv).1, w, nV 0] ∧ St h0.size h0 h' [row 5 1 w ((packP b lv).2.map byteV)] := by
 obtain ⟨K, hK⟩ : ∃ K, packP b lv = K := ⟨_, rfl⟩
 rw [hK]
 unfold packP at hK
 refine ret_of_X Try.func7 rfl rfl fun w0 hw0 => ?_
 simp only [argE, Nat.zero_add, Nat.reduceAdd]
 have st := St.start h0
 refine X_seq (X_reg (XA rfl rfl rfl (XA rfl rfl rfl (XA rfl rfl rfl (XR_nil (X_seq (X_seq (X_reg (XV rfl rfl rfl ?_)))))))))
 refine XR_a (op_len rfl rfl rfl) rfl rfl ?_
 refine XR_wa (opl_call (csmall_spec _ _) rfl (by kernel_rfl)) rfl rfl rfl ?_
 rintro _ _ ⟨rfl, rfl⟩
 rw [decide_eq_true (by omega)]
 refine XR_a (op_not rfl) rfl rfl ?_
 refine XR_as (.bool false) rfl ?_
 refine XR_nil (X_else rfl (X_skip (X_seq (X_seq (X_reg (XV rfl rfl rfl ?_))))))
 refine XR_a (op_geq rfl rfl) rfl rfl ?_
 refine XR_nil ?_
 refine X_if rfl (fun h => ?_) (fun h => ?_)
 ·refine X_seq (X_reg ?_)
  refine XR_wa (opl_new rfl) rfl rfl rfl ?_
  rintro _ hp ⟨p7, rfl, hnew⟩
  replace st := (st.new hnew).wr0
  refine XR_nil (X_seq (X_reg (XV rfl rfl rfl (XV rfl rfl rfl ?_))))
  refine XR_wa (opl_call (tsplit_spec (hr.ext st.low) hl (by omega)) rfl (by kernel_rfl)) rfl rfl rfl ?_
  rintro v16 hp2 st2
  obtain ⟨hR, hby, hdO, hsz, hle, _⟩ := splitL_ok (b := b) lv (by omega)
  have hbl := splitL_blen (b := b) lv (by omega)
  replace st := (st.join st2).perm (List.Perm.swap _ _ _)
  clear st2
  obtain ⟨A16, n16, c16, rfl, hl16, _⟩ := st.row 1 rfl
  rw [flat_length _ 3 (fun _ => rfl)] at hl16
  refine XR_wa (opl_call (bput_spec st.here (fun h' rs hs => hs.rdM (List.mem_append_right _ List.mem_cons_self)) (show (splitL b lv).length = n16 by omega) (by omega) hby (by simp)) rfl (by kernel_rfl)) rfl rfl rfl ?_
  rintro _ hp3 ⟨rfl, st3⟩
  rw [if_pos hR, List.nil_append] at st3
  replace st := st.trans st3
  clear st3
  have hpl := pack_length (blockB ((splitL b lv).map splitY))
  obtain ⟨BL, hBL⟩ : ∃ BL, blockB ((splitL b lv).map splitY) = BL := ⟨_, rfl⟩
  rw [hBL] at st hK hbl hpl
  refine XR_nil (X_seq (X_reg ?_))
  refine XR_wa (opl_call (wlen_spec st.here (by omega)) rfl (by kernel_rfl)) rfl rfl rfl ?_
  rintro _ _ ⟨rfl, rfl⟩
  first | refine XR_a (op_addN (n := 7) rfl rfl (by simp only [inK]; omega)) rfl rfl ?_ | refine XR_a (op_addI rfl rfl (by simp only [inK]; omega)) rfl rfl ?_ | refine XR_a (op_add rfl rfl) rfl rfl ?_
  first | refine XR_a (op_quoN (n := 8) rfl rfl (by omega) (by simp only [inK]; omega)) rfl rfl ?_ | refine XR_a (op_quoI rfl rfl (by omega) (by omega) (by simp only [inK]; omega)) rfl rfl ?_ | refine XR_a (op_quo rfl rfl (by omega)) rfl rfl ?_
  refine XV rfl rfl rfl ?_
  refine XR_a (op_len rfl rfl rfl) rfl rfl ?_
  refine XR_a (op_lss rfl rfl) rfl rfl ?_
  refine XR_nil ?_
  refine X_if rfl (fun h => ?_) (fun h => ?_)
  ·rw [if_pos ⟨by omega, by omega⟩] at hK
   subst hK
   refine X_seq (X_reg ?_)
   refine XR_wa (opl_call (wbytes_spec st.here (by omega)) rfl (by kernel_rfl)) rfl rfl rfl ?_
   rintro v24 hp5 st5
   refine XA rfl rfl rfl (XA rfl rfl rfl (XA rfl rfl rfl (XR_nil ?_)))
   refine X_ret (.cons (.tmp rfl) (.cons (.tmp rfl) (.cons (.tmp rfl) .nil))) ?_
   exact ⟨_, rfl, (st.join st5).keep 1⟩
  ·rw [if_neg (by omega)] at hK
   subst hK
   refine X_skip (X_seq (X_reg ?_))
   refine XR_wa (opl_lit0 rfl) rfl rfl rfl ?_
   rintro v25 hp hnew
   replace st := st.new hnew
   refine XV rfl rfl rfl ?_
   refine XR_wa (opl_append st 0 rfl (hr.ext st.low) (by simpa using hl) (one_bytes _) (by simp; omega) rfl rfl rfl rfl rfl rfl rfl) rfl rfl rfl fun v hp st => ?_
   simp only [List.set_cons_zero, List.set_cons_succ] at st
   rw [List.nil_append] at st
   refine XA rfl rfl rfl (XA rfl rfl rfl (XA rfl rfl rfl (XR_nil ?_)))
   refine X_ret (.cons (.tmp rfl) (.cons (.tmp rfl) (.cons (.tmp rfl) .nil))) ?_
   exact ⟨_, rfl, st.keep 1⟩
 ·rw [if_neg (by omega)] at hK
  subst hK
  refine X_skip (X_seq (X_reg ?_))
  refine XR_wa (opl_lit0 rfl) rfl rfl rfl ?_
  rintro v25 hp hnew
  replace st := st.new hnew
  refine XV rfl rfl rfl ?_
  refine XR_wa (opl_append st 0 rfl (hr.ext st.low) (by simpa using hl) (one_bytes _) (by simp; omega) rfl rfl rfl rfl rfl rfl rfl) rfl rfl rfl fun v hp st => ?_
  simp only [List.set_cons_zero, List.set_cons_succ] at st
  rw [List.nil_append] at st
  refine XA rfl rfl rfl (XA rfl rfl rfl (XA rfl rfl rfl (XR_nil ?_)))
  refine X_ret (.cons (.tmp rfl) (.cons (.tmp rfl) (.cons (.tmp rfl) .nil))) ?_
  exact ⟨_, rfl, st.keep 1⟩
end Go.Bn
end

section
set_option linter.unusedVariables false
set_option linter.unusedSimpArgs false
set_option maxHeartbeats 4000000
set_option maxRecDepth 20000
namespace Go.Bn
open Go Proofs
theorem blockB_ge (ys : List Sy) : 9 ≤ (blockB ys).length := by
 unfold blockB putR putHead
 simp only [List.length_append, bitsN_length]
 omega
theorem packP_one : packP [7] 3 = (0, [7]) := by
 unfold packP
 rw [if_neg]
 rintro ⟨_, h⟩
 have := blockB_ge ((splitL [7] 3).map splitY)
 rw [pack_length, List.length_singleton] at h
 omega
theorem lives14 (h0 : Heap) : Ret Try.prog 6 [] h0 fun v h' => v = .bool true ∧ Ext h0 h' := by
 refine ret_of_X Try.func6 rfl rfl fun w0 hw0 => ?_
 simp only [argE, Nat.zero_add, Nat.reduceAdd]
 have st := St.start h0
 refine X_seq (X_reg (XA rfl rfl rfl (XR_nil (X_seq (X_reg ?_)))))
 refine XR_wa (opl_lits [.int .u8 7] rfl rfl rfl rfl (by kernel_rfl) rfl) rfl rfl rfl ?_
 rintro v2 hp hnew
 replace st := st.new hnew
 obtain ⟨A5, n5, c5, rfl, hl5, _, _, hr5⟩ := st.row 0 rfl
 obtain rfl : n5 = 1 := by simpa using hl5.symm
 have hr5 : Rd hp A5 (([7] : List UInt8).map byteV) := hr5
 refine XR_wa (opl_call (cpack_spec (b := [7]) (lv := 3) hr5 rfl (by decide)) rfl (by kernel_rfl)) rfl rfl rfl ?_
 rintro _ hp2 ⟨w, rfl, st2⟩
 rw [packP_one] at st2 ⊢
 obtain ⟨A6, n6, c6, rfl, hl6, _, _, hr6⟩ := st2.row 0 rfl
 obtain rfl : n6 = 1 := by simpa using hl6.symm
 refine XV rfl rfl rfl (XR_a (op_extract rfl rfl) rfl rfl (XR_a (op_extract rfl rfl) rfl rfl (XR_a (op_extract rfl rfl) rfl rfl (XA rfl rfl rfl (XA rfl rfl rfl (XA rfl rfl rfl (XR_nil (X_seq (X_reg ?_)))))))))
 refine XV rfl rfl rfl ?_
 refine XR_a (op_eql rfl rfl) rfl rfl ?_
 refine XR_as (.bool true) (congrArg Value.bool (decide_eq_true rfl)) ?_
 refine XV rfl rfl rfl (XV rfl rfl rfl ?_)
 refine XR_a (op_str (l := [7]) hr6 rfl rfl rfl rfl rfl) rfl rfl ?_
 refine XR_a (op_eqlS rfl rfl) rfl rfl ?_
 refine XR_as (.bool true) rfl ?_
 refine XR_a (op_pick_t rfl rfl) rfl rfl (XV rfl rfl rfl (XV rfl rfl rfl ?_))
 refine XR_a (op_eql rfl rfl) rfl rfl ?_
 refine XR_as (.bool true) (congrArg Value.bool (decide_eq_true rfl)) ?_
 refine XR_a (op_pick_t rfl rfl) rfl rfl (XA rfl rfl rfl (XR_nil ?_))
 refine X_ret (.cons (.tmp rfl) .nil) ?_
 exact ⟨rfl, Ext.trans st.low st2.low⟩
end Go.Bn
end
