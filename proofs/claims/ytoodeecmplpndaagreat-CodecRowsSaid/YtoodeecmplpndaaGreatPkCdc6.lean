/- Packed texts of a claim: what its theorem uses, joined. -/
import Derived.MapKept
import Derived.ProofKit
import Derived.OpenShut
import Derived.ShutString
import Derived.ChangeOld
import Derived.SizedLaws
import Derived.ChangeSlices
import Derived.Deep.Slices
import Derived.Test.YtoodeecmplpndaaGreatPkCdc5
section
set_option linter.unusedVariables false
set_option linter.unusedSimpArgs false
set_option maxHeartbeats 4000000
set_option maxRecDepth 20000
namespace Go.Bn
open Go Proofs
def beginsB (a b : List Bool) : Bool := a.take b.length == b.take a.length
theorem b01_inj {x y : Bool} (h : (if x = true then (1 : UInt8) else 0) = if y = true then 1 else 0) : x = y := by
 cases x <;> cases y <;> first | rfl | (revert h; decide)
theorem begins_ref {n m c d : Nat} {A B : Option Addr} {a b : List Bool} {h0 : Heap} (hr : Rd h0 A ((b01 a).map byteV)) (hl : a.length = n) (hs : Rd h0 B ((b01 b).map byteV)) (hm : b.length = m) (hn : n ≤ 1099511627776) :
  Ret Tryz.prog 111 [.slice A n c, .slice B m d] h0 fun v h' => v = .bool (beginsB a b) ∧ h0 = h' := by
 refine ret_of_X Tryz.func111 rfl rfl fun w0 hw0 => ?_
 simp only [argE, Nat.zero_add, Nat.reduceAdd]
 refine X_seq (X_reg (XA rfl rfl rfl (XR_nil (X_seq (X_seq (X_reg (XA rfl rfl rfl (XR_nil (X_block ?_)))))))))
 refine X_loop (fun i => n - i) (fun i => [(0, .slice A n c), (1, .slice B m d), (5, .int .i64 (i : Int))])
  (fun (i : Nat) hp => hp = h0 ∧ i ≤ n ∧ i ≤ m ∧ a.take i = b.take i)
  0 (.cons rfl (.cons rfl (.cons rfl (.nil _)))) ⟨rfl, by omega, by omega, by simp⟩ ?_
 rintro i hp ⟨rfl, hi, hi2, heq⟩
 refine X_seq (X_seq (X_reg (XV rfl rfl rfl (XV rfl rfl rfl ?_))))
 refine XR_a (op_len rfl rfl rfl) rfl rfl ?_
 refine XR_a (op_lss rfl rfl) rfl rfl ?_
 refine XV rfl rfl rfl ?_
 refine XR_if 10 rfl (fun h => ?_) (fun h => ?_)
 ·refine XV rfl rfl rfl (XV rfl rfl rfl ?_)
  refine XR_a (op_len rfl rfl rfl) rfl rfl ?_
  refine XR_a (op_lss rfl rfl) rfl rfl ?_
  refine XR_a (op_pick_t rfl rfl) rfl rfl (XR_nil ?_)
  refine X_if rfl (fun h => ?_) (fun h => ?_)
  ·have hla : i < a.length := by omega
   have hlb : i < b.length := by omega
   obtain ⟨g, o, rfl, hc⟩ := hr.at_ (by rw [List.length_map, b01_length]; omega)
   obtain ⟨g2, o2, rfl, hc2⟩ := hs.at_ (by rw [List.length_map, b01_length]; omega)
   have hci := hc i (byteV (if a[i] = true then 1 else 0)) (by simp [b01, hla])
   have hci2 := hc2 i (byteV (if b[i] = true then 1 else 0)) (by simp [b01, hlb])
   refine X_skip (X_seq (X_block (X_seq ?_)))
   refine X_draw byKind (by kernel_rfl) (by kernel_rfl) ?_
   refine XV rfl rfl rfl (XV rfl rfl rfl ?_)
   first | refine XR_a (op_index1 rfl rfl rfl (by omega)) rfl rfl ?_ | refine XR_a (op_index rfl rfl rfl (by omega)) rfl rfl ?_
   refine XR_a (op_ld (hci) rfl rfl rfl) rfl rfl ?_
   refine XV rfl rfl rfl (XV rfl rfl rfl ?_)
   first | refine XR_a (op_index1 rfl rfl rfl (by omega)) rfl rfl ?_ | refine XR_a (op_index rfl rfl rfl (by omega)) rfl rfl ?_
   refine XR_a (op_ld (hci2) rfl rfl rfl) rfl rfl ?_
   refine XR_a (op_neq rfl rfl) rfl rfl ?_
   refine XR_nil ?_
   refine X_if rfl (fun h => ?_) (fun h => ?_)
   ·refine X_seq (X_reg (XA rfl rfl rfl (XR_nil ?_)))
    refine X_ret (.cons (.tmp rfl) .nil) ?_
    refine ⟨congrArg Value.bool (Eq.symm ?_), rfl⟩
    unfold beginsB
    rw [beq_eq_false_iff_ne]
    intro hh
    have h1 := congrArg (fun l => l[i]?) hh
    simp only [List.getElem?_take, if_pos (show i < b.length by omega), if_pos (show i < a.length by omega), List.getElem?_eq_getElem hla, List.getElem?_eq_getElem hlb] at h1
    rw [Option.some.inj h1] at h
    exact h rfl
   ·refine X_skip (X_blk (X_reg (XV rfl rfl rfl ?_)))
    first | refine XR_a (op_addN (n := 1) rfl rfl (by simp only [inK]; omega)) rfl rfl ?_ | refine XR_a (op_addI rfl rfl (by simp only [inK]; omega)) rfl rfl ?_ | refine XR_a (op_add rfl rfl) rfl rfl ?_
    refine XA rfl rfl rfl (XR_nil ?_)
    refine X_again (i + 1) (.cons rfl (.cons rfl (.cons rfl (.nil _)))) ⟨rfl, by omega, by omega, ?_⟩ (by omega)
    have h1 : a[i] = b[i] := by
     have h2 := Decidable.not_not.1 h
     refine b01_inj ?_
     have h3 : (if a[i] = true then (1 : UInt8) else 0).toNat = (if b[i] = true then (1 : UInt8) else 0).toNat := Int.ofNat.inj h2
     exact UInt8.toNat_inj.1 h3
    rw [List.take_succ_eq_append_getElem hla, List.take_succ_eq_append_getElem hlb, heq, h1]
  ·refine X_exit rfl (X_seq ?_)
   have hfin : beginsB a b = true := by
    unfold beginsB
    rw [beq_iff_eq]
    rcases Nat.le_total n m with h1 | h1
    ·obtain rfl : i = n := by omega
     rw [List.take_of_length_le (by omega), hl, ← heq, List.take_of_length_le (by omega)]
    ·obtain rfl : i = m := by omega
     rw [hm, List.take_of_length_le (l := b) (by omega), heq, List.take_of_length_le (by omega)]
   refine X_reg (XA rfl rfl rfl (XR_nil ?_))
   refine X_ret (.cons (.tmp rfl) .nil) ?_
   exact ⟨by rw [hfin]; rfl, rfl⟩
 ·refine XR_no rfl rfl (XR_no rfl rfl (XR_no rfl rfl (XR_no rfl rfl (XR_a (op_pick_f rfl rfl) rfl rfl (XR_nil (X_else rfl (X_exit rfl (X_seq ?_))))))))
  have hfin : beginsB a b = true := by
   unfold beginsB
   rw [beq_iff_eq]
   rcases Nat.le_total n m with h1 | h1
   ·obtain rfl : i = n := by omega
    rw [List.take_of_length_le (by omega), hl, ← heq, List.take_of_length_le (by omega)]
   ·obtain rfl : i = m := by omega
    rw [hm, List.take_of_length_le (l := b) (by omega), heq, List.take_of_length_le (by omega)]
  refine X_reg (XA rfl rfl rfl (XR_nil ?_))
  refine X_ret (.cons (.tmp rfl) .nil) ?_
  exact ⟨by rw [hfin]; rfl, rfl⟩
theorem beg_hit {v n s : Nat} {bs : List Bool} (h : n ≤ bs.length) (hn : n ≤ 15) : beginsB (codeBits v n) bs = hitQ (valB (bs.take 15)) (s, turnV v n, n) := by
 unfold beginsB
 rw [codeBits_length, List.take_of_length_le (by rw [codeBits_length]; exact h), Bool.eq_iff_iff, beq_iff_eq, hitQ_iff]
 simp only
 rw [match_iff, bits_take15 bs hn h]
 exact eq_comm
theorem beg_begin {v n s : Nat} {bs : List Bool} (h : bs.length < n) (hn : n ≤ 15) : beginsB (codeBits v n) bs = beginQ bs.length (valB (bs.take 15)) (s, turnV v n, n) := by
 have hb := bits_take15 bs (n := bs.length) (by omega) (Nat.le_refl _)
 rw [List.take_of_length_le (Nat.le_refl _)] at hb
 unfold beginsB
 rw [codeBits_length, List.take_of_length_le (l := bs) (by omega), ← bits_turnV, bitsN_take _ _ _ (by omega), Bool.eq_iff_iff, beq_iff_eq, beginQ_iff]
 simp only
 constructor
 ·intro e
  refine ⟨h, ?_⟩
  rw [← hb] at e
  have e2 : bitsN bs.length (turnV v n % 2 ^ bs.length) = bitsN bs.length (valB (bs.take 15) % 2 ^ bs.length) := by
   rw [bitsN_mod, bitsN_mod]
   have hl : (bitsN bs.length (valB (bs.take 15))).length = bs.length := bitsN_length _ _
   rwa [hl] at e
  exact bitsN_inj (n := bs.length) (Nat.mod_lt _ (Nat.pow_pos (by omega))) (Nat.mod_lt _ (Nat.pow_pos (by omega))) e2
 ·rintro ⟨_, e⟩
  rw [← bitsN_mod, e, bitsN_mod, hb]
theorem take08_ref {n c d m c3 a : Nat} {A B A3 : Option Addr} {ls : List Nat} {rb : List Bool} {h0 : Heap} (hr : Rd h0 A (ls.map nV)) (hl : ls.length = n) (hs : Rd h0 B ((vals ls).map nV)) (hok : lensOK ls)
  (hrb : Rd h0 A3 ((b01 rb).map byteV)) (hlb : rb.length = m) (hm : m ≤ 1048576) (hmc : m ≤ c3) (ha : a ≤ m) :
  Ret Tryz.prog 69 [.slice A n c, .slice B n d, .slice A3 m c3, .int .i64 (a : Int)] h0
   fun v h' => v = retVal [.int .i64 ((takeS (qcodes ls) (rb.drop a)).1 : Nat), .int .i64 ((takeS (qcodes ls) (rb.drop a)).2.1 : Nat), .int .i64 ((takeS (qcodes ls) (rb.drop a)).2.2 : Nat)] ∧ Ext h0 h' := by
 have hQ := qcodes_ok hok
 have h320 := hok.2.1
 obtain ⟨bs, hbs⟩ : ∃ bs, rb.drop a = bs := ⟨_, rfl⟩
 have hbl : bs.length = m - a := by rw [← hbs, List.length_drop, hlb]
 have hsl : a < m → Rd h0 (cutA A3 a 1 c3) ((b01 bs).map byteV) := fun hlt => by
  have h1 := hrb.cut a 1 c3 (m - a) (fun e => by rw [List.length_map, b01_length, hlb]; omega)
  have e : (((b01 rb).map byteV).drop (a * 1)).take (m - a) = (b01 bs).map byteV := by
   rw [Nat.mul_one, ← hbs]
   unfold b01
   rw [← List.map_drop, ← List.map_drop, List.take_of_length_le (by rw [List.length_map, List.length_map, List.length_drop]; omega)]
  rwa [e] at h1
 have hTS : takeS (qcodes ls) bs = match (qcodes ls).find? (matchQ bs) with
  | some c => (c.1, c.2.2, 0)
  | none => if shortB (qcodes ls) bs.length (valB (bs.take 15)) = true then (0, 0, 2) else (0, 0, 13) := rfl
 rw [hbs]
 obtain ⟨T, hT⟩ : ∃ T, takeS (qcodes ls) bs = T := ⟨_, rfl⟩
 rw [hT] at hTS ⊢
 obtain ⟨x, hx⟩ : ∃ x, valB (bs.take 15) = x := ⟨_, rfl⟩
 have hmi : ∀ c, matchQ bs c = true ↔ c.2.2 ≤ bs.length ∧ hitQ x c = true := fun c => by rw [← hx]; exact matchQ_iff
 have hbh : ∀ {v n s : Nat}, n ≤ bs.length → n ≤ 15 → beginsB (codeBits v n) bs = hitQ x (s, turnV v n, n) := fun h hn => by rw [← hx]; exact beg_hit h hn
 have hbb : ∀ {v n s : Nat}, bs.length < n → n ≤ 15 → beginsB (codeBits v n) bs = beginQ bs.length x (s, turnV v n, n) := fun h hn => by rw [← hx]; exact beg_begin h hn
 rw [hx] at hTS
 refine ret_of_X Tryz.func69 rfl rfl fun w0 hw0 => ?_
 simp only [argE, Nat.zero_add, Nat.reduceAdd]
 refine X_seq (X_reg (XA rfl rfl rfl (XA rfl rfl rfl (XA rfl rfl rfl (XR_nil (X_seq (X_reg (XA rfl rfl rfl (XR_nil ?_)))))))))
 refine X_seq (X_seq (X_reg (XV rfl rfl rfl (XV rfl rfl rfl ?_))))
 refine XR_a (op_len rfl rfl rfl) rfl rfl ?_
 refine XR_a (op_geq rfl rfl) rfl rfl ?_
 refine XR_nil ?_
 refine X_if rfl (fun h => ?_) (fun h => ?_)
 ·refine X_reg (XA rfl rfl rfl (XR_nil (X_seq (X_seq (X_reg (XA rfl rfl rfl (XR_nil (X_block ?_))))))))
  obtain ⟨e0, he0⟩ : ∃ e0 : Nat, e0 = 2 := ⟨_, rfl⟩
  have heb : e0 = if bs.length = 0 then 2 else 13 := by rw [if_pos (by omega), he0]
  refine X_loop (fun s => n - s.1) (fun s => [(0, .slice A n c), (1, .slice B n d), (2, .slice A3 m c3), (3, .int .i64 (a : Nat)), (11, .int .i64 (s.2 : Nat)), (12, .int .i64 (s.1 : Nat))])
   (fun (s : Nat × Nat) hp => Ext h0 hp ∧ s.1 ≤ n ∧ (codesTo ls s.1).find? (matchQ bs) = none ∧ s.2 = if bs.length = 0 ∨ shortB (codesTo ls s.1) bs.length x = true then 2 else 13)
   (0, e0) (.cons rfl (.cons rfl (.cons rfl (.cons rfl (.cons (by rw [he0]; rfl) (.cons rfl (.nil _))))))) ⟨Ext.refl _, Nat.zero_le _, rfl, by simp only; rw [heb]; simp [codesTo, shortB]⟩ ?_
  rintro ⟨s, e⟩ hp ⟨hxt, hi, hfn, hee⟩
  simp only at hxt hi hfn hee ⊢
  refine X_seq (X_seq (X_reg (XV rfl rfl rfl (XV rfl rfl rfl ?_))))
  refine XR_a (op_len rfl rfl rfl) rfl rfl ?_
  refine XR_a (op_lss rfl rfl) rfl rfl ?_
  refine XV rfl rfl rfl ?_
  refine XR_if 22 rfl (fun h => ?_) (fun h => ?_)
  ·refine XV rfl rfl rfl (XV rfl rfl rfl ?_)
   refine XR_a (op_len rfl rfl rfl) rfl rfl ?_
   refine XR_a (op_lss rfl rfl) rfl rfl ?_
   refine XR_a (op_pick_t rfl rfl) rfl rfl (XR_nil ?_)
   refine X_if rfl (fun h => ?_) (fun h => ?_)
   ·refine X_skip (X_seq (X_block (X_seq ?_)))
    have hlt : s < ls.length := by omega
    obtain ⟨g, o, rfl, hc⟩ := hr.at_ (by rw [List.length_map]; omega)
    obtain ⟨g2, o2, rfl, hc2⟩ := hs.at_ (by rw [List.length_map, vals_length]; omega)
    have hci := fun {hp : Heap} (hx : Ext h0 hp) => cellH_ext (a := ⟨g, o + s, none⟩) hx (hc s (nV ls[s]) (by simp [hlt]))
    have hvi : (vals ls)[s]? = some (val ls s) := by simp [vals, hlt]
    have hcv := fun {hp : Heap} (hx : Ext h0 hp) => cellH_ext (a := ⟨g2, o2 + s, none⟩) hx (hc2 s _ (map_get_nV hvi))
    have h15 := hok.2.2.1 ls[s] (List.getElem_mem hlt)
    have hcs := codesTo_succ ls s
    have hco : codeOf ls s = if ls[s] = 0 then [] else [(s, turnV (val ls s) ls[s], ls[s])] := by unfold codeOf; rw [getD_get hlt]
    have hmemQ : ls[s] ≠ 0 → (s, turnV (val ls s) ls[s], ls[s]) ∈ qcodes ls := fun h0 => mem_qcodes.2 ⟨s, hlt, h0, rfl⟩
    have hvb : val ls s < 32769 := by
     by_cases h0 : ls[s] = 0
     ·unfold val; rw [getD_get hlt, if_pos h0]; omega
     ·have h1 := val_lt hok hlt h0
      have h2 := fst_bd hok h15
      omega
    obtain ⟨k, hk⟩ : ∃ k, ls[s] = k := ⟨_, rfl⟩
    obtain ⟨v, hv⟩ : ∃ v, val ls s = v := ⟨_, rfl⟩
    rw [hk] at hci h15 hco hmemQ
    rw [hv] at hcv hco hmemQ hvb
    have hskip : codeOf ls s = [] → (codesTo ls (s + 1)).find? (matchQ bs) = none ∧ e = if bs.length = 0 ∨ shortB (codesTo ls (s + 1)) bs.length x = true then 2 else 13 := fun h => by
     rw [hcs, h, List.append_nil]; exact ⟨hfn, hee⟩
    have hsb : ∀ b : Bool, beginQ bs.length x (s, turnV v k, k) = b → k ≠ 0 → shortB (codesTo ls (s + 1)) bs.length x = (shortB (codesTo ls s) bs.length x || b) := fun b hb h0 => by
     rw [hcs, hco, if_neg h0]
     unfold shortB
     rw [List.any_append]
     simp [hb]
    have hfm : matchQ bs (s, turnV v k, k) = false → k ≠ 0 → (codesTo ls (s + 1)).find? (matchQ bs) = none := fun hm h0 => by
     rw [hcs, hco, if_neg h0, List.find?_append, hfn]; simp [hm]
    refine X_draw (butAt [(8, .grow)]) (by kernel_rfl) (by kernel_rfl) ?_
    refine XV rfl rfl rfl (XV rfl rfl rfl ?_)
    first | refine XR_a (op_index1 rfl rfl rfl (by omega)) rfl rfl ?_ | refine XR_a (op_index rfl rfl rfl (by omega)) rfl rfl ?_
    refine XR_a (op_ld (hcv hxt) rfl rfl rfl) rfl rfl ?_
    refine XV rfl rfl rfl (XV rfl rfl rfl ?_)
    first | refine XR_a (op_index1 rfl rfl rfl (by omega)) rfl rfl ?_ | refine XR_a (op_index rfl rfl rfl (by omega)) rfl rfl ?_
    refine XR_a (op_ld (hci hxt) rfl rfl rfl) rfl rfl ?_
    refine XR_ga (opl_call (bits08_ref (z := v) (n := k) (by omega) (by omega)) rfl (by kernel_rfl)) rfl rfl rfl (fun _ _ h => h.low) ?_
    rintro v2 hp2 st2
    obtain ⟨A2, n2, c2, rfl, hlen2, _, _, hrd2⟩ := st2.row 0 rfl
    rw [List.length_map, b01_length, codeBits_length] at hlen2
    replace hxt := hxt.trans st2.low
    refine XA rfl rfl rfl (XR_nil (X_seq (X_seq (X_reg (XV rfl rfl rfl (XV rfl rfl rfl ?_))))))
    first | refine XR_a (op_index1 rfl rfl rfl (by omega)) rfl rfl ?_ | refine XR_a (op_index rfl rfl rfl (by omega)) rfl rfl ?_
    refine XR_a (op_ld (hci hxt) rfl rfl rfl) rfl rfl ?_
    refine XR_a (op_eql rfl rfl) rfl rfl ?_
    refine XV rfl rfl rfl ?_
    refine XR_if 44 rfl (fun h => ?_) (fun h => ?_)
    ·refine XR_no rfl rfl (XR_no rfl rfl (XR_no rfl rfl (XR_no rfl rfl (XR_a (op_pick_t rfl rfl) rfl rfl (XV rfl rfl rfl (XR_no rfl rfl (XR_no rfl rfl (XR_no rfl rfl (XR_no rfl rfl ?_)))))))))
     refine XR_no rfl rfl (XR_no rfl rfl (XR_a (op_pick_t rfl rfl) rfl rfl (XR_nil (X_then rfl (X_exit rfl (X_reg (XV rfl rfl rfl ?_)))))))
     first | refine XR_a (op_addN (n := 1) rfl rfl (by simp only [inK]; omega)) rfl rfl ?_ | refine XR_a (op_addI rfl rfl (by simp only [inK]; omega)) rfl rfl ?_ | refine XR_a (op_add rfl rfl) rfl rfl ?_
     refine XA rfl rfl rfl (XR_nil ?_)
     obtain ⟨q1, q2⟩ := hskip (by rw [hco, if_pos (by omega)])
     exact X_again (s + 1, e) (.cons rfl (.cons rfl (.cons rfl (.cons rfl (.cons rfl (.cons rfl (.nil _))))))) ⟨hxt, by simp only; omega, q1, q2⟩ (by simp only; omega)
    ·refine XV rfl rfl rfl (XV rfl rfl rfl ?_)
     refine XR_a (op_len rfl rfl rfl) rfl rfl ?_
     refine XR_a (op_geq rfl rfl) rfl rfl ?_
     refine XR_a (op_pick_f rfl rfl) rfl rfl (XV rfl rfl rfl ?_)
     refine XR_if 50 rfl (fun h => ?_) (fun h => ?_)
     ·refine XR_no rfl rfl (XR_no rfl rfl (XR_no rfl rfl (XR_no rfl rfl (XR_no rfl rfl (XR_no rfl rfl (XR_a (op_pick_t rfl rfl) rfl rfl (XR_nil (X_then rfl (X_exit rfl ?_)))))))))
      refine X_reg (XV rfl rfl rfl ?_)
      first | refine XR_a (op_addN (n := 1) rfl rfl (by simp only [inK]; omega)) rfl rfl ?_ | refine XR_a (op_addI rfl rfl (by simp only [inK]; omega)) rfl rfl ?_ | refine XR_a (op_add rfl rfl) rfl rfl ?_
      refine XA rfl rfl rfl (XR_nil ?_)
      have hb0 : bs.length = 0 := by omega
      refine X_again (s + 1, e) (.cons rfl (.cons rfl (.cons rfl (.cons rfl (.cons rfl (.cons rfl (.nil _))))))) ⟨hxt, by simp only; omega, hfm ?_ (by omega), ?_⟩ (by simp only; omega)
      ·cases hh : matchQ bs (s, turnV v k, k) with
       | false => rfl
       | true => have := ((hmi _).1 hh).1; simp only at this; omega
      ·simp only; rw [if_pos (.inl hb0)]; rw [if_pos (.inl hb0)] at hee; exact hee
     ·refine XV rfl rfl rfl (XV rfl rfl rfl (XV rfl rfl rfl ?_))
      refine XR_a (op_slice_l (l := a) rfl rfl rfl (by omega) (by omega)) rfl rfl ?_
      refine XR_wa (opl_call (begins_ref (a := codeBits v k) (b := bs) hrd2 (by rw [codeBits_length]; omega) ((hsl (by omega)).ext hxt) (by omega) (by omega)) rfl (by kernel_rfl)) rfl rfl rfl ?_
      rintro _ _ ⟨rfl, rfl⟩
      first | refine XR_a (op_notd rfl) rfl rfl ?_ | refine XR_a (op_not rfl) rfl rfl ?_
      refine XR_a (op_pick_f rfl rfl) rfl rfl (XR_nil ?_)
      refine X_cond rfl (fun h => ?_) (fun h => ?_)
      ·refine X_exit rfl (X_reg (XV rfl rfl rfl ?_))
       first | refine XR_a (op_addN (n := 1) rfl rfl (by simp only [inK]; omega)) rfl rfl ?_ | refine XR_a (op_addI rfl rfl (by simp only [inK]; omega)) rfl rfl ?_ | refine XR_a (op_add rfl rfl) rfl rfl ?_
       refine XA rfl rfl rfl (XR_nil ?_)
       have hbf : beginsB (codeBits v k) bs = false := by simpa using h
       have hk0 : k ≠ 0 := by omega
       refine X_again (s + 1, e) (.cons rfl (.cons rfl (.cons rfl (.cons rfl (.cons rfl (.cons rfl (.nil _))))))) ⟨hxt, by simp only; omega, hfm ?_ hk0, ?_⟩ (by simp only; omega)
       ·cases hh : matchQ bs (s, turnV v k, k) with
        | false => rfl
        | true =>
         obtain ⟨h1, h2⟩ := (hmi _).1 hh
         rw [← hbh h1 h15, hbf] at h2; cases h2
       ·have hbq : beginQ bs.length x (s, turnV v k, k) = false := by
         cases hh : beginQ bs.length x (s, turnV v k, k) with
         | false => rfl
         | true =>
          have h1 := (beginQ_iff.1 hh).1
          rw [← hbb h1 h15, hbf] at hh; cases hh
        simp only
        rw [hsb false hbq hk0, Bool.or_false]; exact hee
      ·refine X_skip (X_seq (X_seq ?_))
       have hbt : beginsB (codeBits v k) bs = true := by simpa using h
       have hk0 : k ≠ 0 := by omega
       refine X_reg (XV rfl rfl rfl (XV rfl rfl rfl ?_))
       first | refine XR_a (op_index1 rfl rfl rfl (by omega)) rfl rfl ?_ | refine XR_a (op_index rfl rfl rfl (by omega)) rfl rfl ?_
       refine XR_a (op_ld (hci hxt) rfl rfl rfl) rfl rfl ?_
       refine XV rfl rfl rfl ?_
       refine XR_a (op_len rfl rfl rfl) rfl rfl ?_
       refine XV rfl rfl rfl ?_
       first | refine XR_a (op_subN rfl rfl (by omega) (by simp only [inK]; omega)) rfl rfl ?_ | refine XR_a (op_subI rfl rfl (by simp only [inK]; omega)) rfl rfl ?_ | refine XR_a (op_sub rfl rfl) rfl rfl ?_
       refine XR_a (op_leq rfl rfl) rfl rfl ?_
       refine XR_nil ?_
       refine X_if rfl (fun h => ?_) (fun h => ?_)
       ·refine X_seq ?_
        refine X_draw byKind (by kernel_rfl) (by kernel_rfl) ?_
        refine XV rfl rfl rfl (XV rfl rfl rfl (XV rfl rfl rfl ?_))
        first | refine XR_a (op_index1 rfl rfl rfl (by omega)) rfl rfl ?_ | refine XR_a (op_index rfl rfl rfl (by omega)) rfl rfl ?_
        refine XR_a (op_ld (hci hxt) rfl rfl rfl) rfl rfl ?_
        refine XA rfl rfl rfl (XA rfl rfl rfl (XA rfl rfl rfl (XR_nil ?_)))
        refine X_ret (.cons (.tmp rfl) (.cons (.tmp rfl) (.cons (.tmp rfl) .nil))) ?_
        have hkl : k ≤ bs.length := by omega
        have hhit : hitQ x (s, turnV v k, k) = true := by rw [← hbh hkl h15]; exact hbt
        rw [find_some_of (hmemQ hk0) ((hmi _).2 ⟨hkl, hhit⟩) fun d hd hh => hitQ_one hQ hd (hmemQ hk0) ((hmi d).1 hh).2 hhit] at hTS
        rw [hTS]
        exact ⟨rfl, hxt⟩
       ·refine X_skip (X_reg (XA rfl rfl rfl (XR_nil (X_blk (X_reg (XV rfl rfl rfl ?_))))))
        first | refine XR_a (op_addN (n := 1) rfl rfl (by simp only [inK]; omega)) rfl rfl ?_ | refine XR_a (op_addI rfl rfl (by simp only [inK]; omega)) rfl rfl ?_ | refine XR_a (op_add rfl rfl) rfl rfl ?_
        refine XA rfl rfl rfl (XR_nil ?_)
        have hkl : bs.length < k := by omega
        have hbq : beginQ bs.length x (s, turnV v k, k) = true := by rw [← hbb hkl h15]; exact hbt
        refine X_again (s + 1, 2) (.cons rfl (.cons rfl (.cons rfl (.cons rfl (.cons rfl (.cons rfl (.nil _))))))) ⟨hxt, by simp only; omega, hfm ?_ hk0, ?_⟩ (by simp only; omega)
        ·cases hh : matchQ bs (s, turnV v k, k) with
         | false => rfl
         | true => have := ((hmi _).1 hh).1; simp only at this; omega
        ·simp only
         rw [hsb true hbq hk0, Bool.or_true, if_pos (.inr rfl)]
   ·refine X_exit rfl (X_seq ?_)
    obtain rfl : s = n := by omega
    have hqe : codesTo ls s = qcodes ls := by unfold qcodes; rw [hl]
    rw [hqe] at hfn hee
    rw [hfn] at hTS
    simp only at hTS
    have hfin : T = (0, 0, e) := by
     rw [hTS, hee]
     by_cases h0 : bs.length = 0
     ·have hsn := short_nil hok x
      rw [h0, if_pos hsn]; simp
     ·by_cases h1 : shortB (qcodes ls) bs.length x = true
      ·rw [if_pos h1, if_pos (.inr h1)]
      ·rw [if_neg h1, if_neg (by rintro (h2 | h2); exact h0 h2; exact h1 h2)]
    refine X_reg (XV rfl rfl rfl (XA rfl rfl rfl (XA rfl rfl rfl (XA rfl rfl rfl (XR_nil ?_)))))
    refine X_ret (.cons (.tmp rfl) (.cons (.tmp rfl) (.cons (.tmp rfl) .nil))) ?_
    rw [hfin]
    exact ⟨rfl, hxt⟩
  ·refine XR_no rfl rfl (XR_no rfl rfl (XR_no rfl rfl (XR_no rfl rfl (XR_a (op_pick_f rfl rfl) rfl rfl (XR_nil (X_else rfl (X_exit rfl (X_seq ?_))))))))
   obtain rfl : s = n := by omega
   have hqe : codesTo ls s = qcodes ls := by unfold qcodes; rw [hl]
   rw [hqe] at hfn hee
   rw [hfn] at hTS
   simp only at hTS
   have hfin : T = (0, 0, e) := by
    rw [hTS, hee]
    by_cases h0 : bs.length = 0
    ·have hsn := short_nil hok x
     rw [h0, if_pos hsn]; simp
    ·by_cases h1 : shortB (qcodes ls) bs.length x = true
     ·rw [if_pos h1, if_pos (.inr h1)]
     ·rw [if_neg h1, if_neg (by rintro (h2 | h2); exact h0 h2; exact h1 h2)]
   refine X_reg (XV rfl rfl rfl (XA rfl rfl rfl (XA rfl rfl rfl (XA rfl rfl rfl (XR_nil ?_)))))
   refine X_ret (.cons (.tmp rfl) (.cons (.tmp rfl) (.cons (.tmp rfl) .nil))) ?_
   rw [hfin]
   exact ⟨rfl, hxt⟩
 ·refine X_skip (X_seq (X_seq (X_reg (XA rfl rfl rfl (XR_nil (X_block ?_))))))
  obtain ⟨e0, he0⟩ : ∃ e0 : Nat, e0 = 13 := ⟨_, rfl⟩
  have heb : e0 = if bs.length = 0 then 2 else 13 := by rw [if_neg (by omega), he0]
  refine X_loop (fun s => n - s.1) (fun s => [(0, .slice A n c), (1, .slice B n d), (2, .slice A3 m c3), (3, .int .i64 (a : Nat)), (11, .int .i64 (s.2 : Nat)), (12, .int .i64 (s.1 : Nat))])
   (fun (s : Nat × Nat) hp => Ext h0 hp ∧ s.1 ≤ n ∧ (codesTo ls s.1).find? (matchQ bs) = none ∧ s.2 = if bs.length = 0 ∨ shortB (codesTo ls s.1) bs.length x = true then 2 else 13)
   (0, e0) (.cons rfl (.cons rfl (.cons rfl (.cons rfl (.cons (by rw [he0]; rfl) (.cons rfl (.nil _))))))) ⟨Ext.refl _, Nat.zero_le _, rfl, by simp only; rw [heb]; simp [codesTo, shortB]⟩ ?_
  rintro ⟨s, e⟩ hp ⟨hxt, hi, hfn, hee⟩
  simp only at hxt hi hfn hee ⊢
  refine X_seq (X_seq (X_reg (XV rfl rfl rfl (XV rfl rfl rfl ?_))))
  refine XR_a (op_len rfl rfl rfl) rfl rfl ?_
  refine XR_a (op_lss rfl rfl) rfl rfl ?_
  refine XV rfl rfl rfl ?_
  refine XR_if 22 rfl (fun h => ?_) (fun h => ?_)
  ·refine XV rfl rfl rfl (XV rfl rfl rfl ?_)
   refine XR_a (op_len rfl rfl rfl) rfl rfl ?_
   refine XR_a (op_lss rfl rfl) rfl rfl ?_
   refine XR_a (op_pick_t rfl rfl) rfl rfl (XR_nil ?_)
   refine X_if rfl (fun h => ?_) (fun h => ?_)
   ·refine X_skip (X_seq (X_block (X_seq ?_)))
    have hlt : s < ls.length := by omega
    obtain ⟨g, o, rfl, hc⟩ := hr.at_ (by rw [List.length_map]; omega)
    obtain ⟨g2, o2, rfl, hc2⟩ := hs.at_ (by rw [List.length_map, vals_length]; omega)
    have hci := fun {hp : Heap} (hx : Ext h0 hp) => cellH_ext (a := ⟨g, o + s, none⟩) hx (hc s (nV ls[s]) (by simp [hlt]))
    have hvi : (vals ls)[s]? = some (val ls s) := by simp [vals, hlt]
    have hcv := fun {hp : Heap} (hx : Ext h0 hp) => cellH_ext (a := ⟨g2, o2 + s, none⟩) hx (hc2 s _ (map_get_nV hvi))
    have h15 := hok.2.2.1 ls[s] (List.getElem_mem hlt)
    have hcs := codesTo_succ ls s
    have hco : codeOf ls s = if ls[s] = 0 then [] else [(s, turnV (val ls s) ls[s], ls[s])] := by unfold codeOf; rw [getD_get hlt]
    have hmemQ : ls[s] ≠ 0 → (s, turnV (val ls s) ls[s], ls[s]) ∈ qcodes ls := fun h0 => mem_qcodes.2 ⟨s, hlt, h0, rfl⟩
    have hvb : val ls s < 32769 := by
     by_cases h0 : ls[s] = 0
     ·unfold val; rw [getD_get hlt, if_pos h0]; omega
     ·have h1 := val_lt hok hlt h0
      have h2 := fst_bd hok h15
      omega
    obtain ⟨k, hk⟩ : ∃ k, ls[s] = k := ⟨_, rfl⟩
    obtain ⟨v, hv⟩ : ∃ v, val ls s = v := ⟨_, rfl⟩
    rw [hk] at hci h15 hco hmemQ
    rw [hv] at hcv hco hmemQ hvb
    have hskip : codeOf ls s = [] → (codesTo ls (s + 1)).find? (matchQ bs) = none ∧ e = if bs.length = 0 ∨ shortB (codesTo ls (s + 1)) bs.length x = true then 2 else 13 := fun h => by
     rw [hcs, h, List.append_nil]; exact ⟨hfn, hee⟩
    have hsb : ∀ b : Bool, beginQ bs.length x (s, turnV v k, k) = b → k ≠ 0 → shortB (codesTo ls (s + 1)) bs.length x = (shortB (codesTo ls s) bs.length x || b) := fun b hb h0 => by
     rw [hcs, hco, if_neg h0]
     unfold shortB
     rw [List.any_append]
     simp [hb]
    have hfm : matchQ bs (s, turnV v k, k) = false → k ≠ 0 → (codesTo ls (s + 1)).find? (matchQ bs) = none := fun hm h0 => by
     rw [hcs, hco, if_neg h0, List.find?_append, hfn]; simp [hm]
    refine X_draw (butAt [(8, .grow)]) (by kernel_rfl) (by kernel_rfl) ?_
    refine XV rfl rfl rfl (XV rfl rfl rfl ?_)
    first | refine XR_a (op_index1 rfl rfl rfl (by omega)) rfl rfl ?_ | refine XR_a (op_index rfl rfl rfl (by omega)) rfl rfl ?_
    refine XR_a (op_ld (hcv hxt) rfl rfl rfl) rfl rfl ?_
    refine XV rfl rfl rfl (XV rfl rfl rfl ?_)
    first | refine XR_a (op_index1 rfl rfl rfl (by omega)) rfl rfl ?_ | refine XR_a (op_index rfl rfl rfl (by omega)) rfl rfl ?_
    refine XR_a (op_ld (hci hxt) rfl rfl rfl) rfl rfl ?_
    refine XR_ga (opl_call (bits08_ref (z := v) (n := k) (by omega) (by omega)) rfl (by kernel_rfl)) rfl rfl rfl (fun _ _ h => h.low) ?_
    rintro v2 hp2 st2
    obtain ⟨A2, n2, c2, rfl, hlen2, _, _, hrd2⟩ := st2.row 0 rfl
    rw [List.length_map, b01_length, codeBits_length] at hlen2
    replace hxt := hxt.trans st2.low
    refine XA rfl rfl rfl (XR_nil (X_seq (X_seq (X_reg (XV rfl rfl rfl (XV rfl rfl rfl ?_))))))
    first | refine XR_a (op_index1 rfl rfl rfl (by omega)) rfl rfl ?_ | refine XR_a (op_index rfl rfl rfl (by omega)) rfl rfl ?_
    refine XR_a (op_ld (hci hxt) rfl rfl rfl) rfl rfl ?_
    refine XR_a (op_eql rfl rfl) rfl rfl ?_
    refine XV rfl rfl rfl ?_
    refine XR_if 44 rfl (fun h => ?_) (fun h => ?_)
    ·refine XR_no rfl rfl (XR_no rfl rfl (XR_no rfl rfl (XR_no rfl rfl (XR_a (op_pick_t rfl rfl) rfl rfl (XV rfl rfl rfl (XR_no rfl rfl (XR_no rfl rfl (XR_no rfl rfl (XR_no rfl rfl ?_)))))))))
     refine XR_no rfl rfl (XR_no rfl rfl (XR_a (op_pick_t rfl rfl) rfl rfl (XR_nil (X_then rfl (X_exit rfl (X_reg (XV rfl rfl rfl ?_)))))))
     first | refine XR_a (op_addN (n := 1) rfl rfl (by simp only [inK]; omega)) rfl rfl ?_ | refine XR_a (op_addI rfl rfl (by simp only [inK]; omega)) rfl rfl ?_ | refine XR_a (op_add rfl rfl) rfl rfl ?_
     refine XA rfl rfl rfl (XR_nil ?_)
     obtain ⟨q1, q2⟩ := hskip (by rw [hco, if_pos (by omega)])
     exact X_again (s + 1, e) (.cons rfl (.cons rfl (.cons rfl (.cons rfl (.cons rfl (.cons rfl (.nil _))))))) ⟨hxt, by simp only; omega, q1, q2⟩ (by simp only; omega)
    ·refine XV rfl rfl rfl (XV rfl rfl rfl ?_)
     refine XR_a (op_len rfl rfl rfl) rfl rfl ?_
     refine XR_a (op_geq rfl rfl) rfl rfl ?_
     refine XR_a (op_pick_f rfl rfl) rfl rfl (XV rfl rfl rfl ?_)
     refine XR_if 50 rfl (fun h => ?_) (fun h => ?_)
     ·refine XR_no rfl rfl (XR_no rfl rfl (XR_no rfl rfl (XR_no rfl rfl (XR_no rfl rfl (XR_no rfl rfl (XR_a (op_pick_t rfl rfl) rfl rfl (XR_nil (X_then rfl (X_exit rfl ?_)))))))))
      refine X_reg (XV rfl rfl rfl ?_)
      first | refine XR_a (op_addN (n := 1) rfl rfl (by simp only [inK]; omega)) rfl rfl ?_ | refine XR_a (op_addI rfl rfl (by simp only [inK]; omega)) rfl rfl ?_ | refine XR_a (op_add rfl rfl) rfl rfl ?_
      refine XA rfl rfl rfl (XR_nil ?_)
      have hb0 : bs.length = 0 := by omega
      refine X_again (s + 1, e) (.cons rfl (.cons rfl (.cons rfl (.cons rfl (.cons rfl (.cons rfl (.nil _))))))) ⟨hxt, by simp only; omega, hfm ?_ (by omega), ?_⟩ (by simp only; omega)
      ·cases hh : matchQ bs (s, turnV v k, k) with
       | false => rfl
       | true => have := ((hmi _).1 hh).1; simp only at this; omega
      ·simp only; rw [if_pos (.inl hb0)]; rw [if_pos (.inl hb0)] at hee; exact hee
     ·refine XV rfl rfl rfl (XV rfl rfl rfl (XV rfl rfl rfl ?_))
      refine XR_a (op_slice_l (l := a) rfl rfl rfl (by omega) (by omega)) rfl rfl ?_
      refine XR_wa (opl_call (begins_ref (a := codeBits v k) (b := bs) hrd2 (by rw [codeBits_length]; omega) ((hsl (by omega)).ext hxt) (by omega) (by omega)) rfl (by kernel_rfl)) rfl rfl rfl ?_
      rintro _ _ ⟨rfl, rfl⟩
      first | refine XR_a (op_notd rfl) rfl rfl ?_ | refine XR_a (op_not rfl) rfl rfl ?_
      refine XR_a (op_pick_f rfl rfl) rfl rfl (XR_nil ?_)
      refine X_cond rfl (fun h => ?_) (fun h => ?_)
      ·refine X_exit rfl (X_reg (XV rfl rfl rfl ?_))
       first | refine XR_a (op_addN (n := 1) rfl rfl (by simp only [inK]; omega)) rfl rfl ?_ | refine XR_a (op_addI rfl rfl (by simp only [inK]; omega)) rfl rfl ?_ | refine XR_a (op_add rfl rfl) rfl rfl ?_
       refine XA rfl rfl rfl (XR_nil ?_)
       have hbf : beginsB (codeBits v k) bs = false := by simpa using h
       have hk0 : k ≠ 0 := by omega
       refine X_again (s + 1, e) (.cons rfl (.cons rfl (.cons rfl (.cons rfl (.cons rfl (.cons rfl (.nil _))))))) ⟨hxt, by simp only; omega, hfm ?_ hk0, ?_⟩ (by simp only; omega)
       ·cases hh : matchQ bs (s, turnV v k, k) with
        | false => rfl
        | true =>
         obtain ⟨h1, h2⟩ := (hmi _).1 hh
         rw [← hbh h1 h15, hbf] at h2; cases h2
       ·have hbq : beginQ bs.length x (s, turnV v k, k) = false := by
         cases hh : beginQ bs.length x (s, turnV v k, k) with
         | false => rfl
         | true =>
          have h1 := (beginQ_iff.1 hh).1
          rw [← hbb h1 h15, hbf] at hh; cases hh
        simp only
        rw [hsb false hbq hk0, Bool.or_false]; exact hee
      ·refine X_skip (X_seq (X_seq ?_))
       have hbt : beginsB (codeBits v k) bs = true := by simpa using h
       have hk0 : k ≠ 0 := by omega
       refine X_reg (XV rfl rfl rfl (XV rfl rfl rfl ?_))
       first | refine XR_a (op_index1 rfl rfl rfl (by omega)) rfl rfl ?_ | refine XR_a (op_index rfl rfl rfl (by omega)) rfl rfl ?_
       refine XR_a (op_ld (hci hxt) rfl rfl rfl) rfl rfl ?_
       refine XV rfl rfl rfl ?_
       refine XR_a (op_len rfl rfl rfl) rfl rfl ?_
       refine XV rfl rfl rfl ?_
       first | refine XR_a (op_subN rfl rfl (by omega) (by simp only [inK]; omega)) rfl rfl ?_ | refine XR_a (op_subI rfl rfl (by simp only [inK]; omega)) rfl rfl ?_ | refine XR_a (op_sub rfl rfl) rfl rfl ?_
       refine XR_a (op_leq rfl rfl) rfl rfl ?_
       refine XR_nil ?_
       refine X_if rfl (fun h => ?_) (fun h => ?_)
       ·refine X_seq ?_
        refine X_draw byKind (by kernel_rfl) (by kernel_rfl) ?_
        refine XV rfl rfl rfl (XV rfl rfl rfl (XV rfl rfl rfl ?_))
        first | refine XR_a (op_index1 rfl rfl rfl (by omega)) rfl rfl ?_ | refine XR_a (op_index rfl rfl rfl (by omega)) rfl rfl ?_
        refine XR_a (op_ld (hci hxt) rfl rfl rfl) rfl rfl ?_
        refine XA rfl rfl rfl (XA rfl rfl rfl (XA rfl rfl rfl (XR_nil ?_)))
        refine X_ret (.cons (.tmp rfl) (.cons (.tmp rfl) (.cons (.tmp rfl) .nil))) ?_
        have hkl : k ≤ bs.length := by omega
        have hhit : hitQ x (s, turnV v k, k) = true := by rw [← hbh hkl h15]; exact hbt
        rw [find_some_of (hmemQ hk0) ((hmi _).2 ⟨hkl, hhit⟩) fun d hd hh => hitQ_one hQ hd (hmemQ hk0) ((hmi d).1 hh).2 hhit] at hTS
        rw [hTS]
        exact ⟨rfl, hxt⟩
       ·refine X_skip (X_reg (XA rfl rfl rfl (XR_nil (X_blk (X_reg (XV rfl rfl rfl ?_))))))
        first | refine XR_a (op_addN (n := 1) rfl rfl (by simp only [inK]; omega)) rfl rfl ?_ | refine XR_a (op_addI rfl rfl (by simp only [inK]; omega)) rfl rfl ?_ | refine XR_a (op_add rfl rfl) rfl rfl ?_
        refine XA rfl rfl rfl (XR_nil ?_)
        have hkl : bs.length < k := by omega
        have hbq : beginQ bs.length x (s, turnV v k, k) = true := by rw [← hbb hkl h15]; exact hbt
        refine X_again (s + 1, 2) (.cons rfl (.cons rfl (.cons rfl (.cons rfl (.cons rfl (.cons rfl (.nil _))))))) ⟨hxt, by simp only; omega, hfm ?_ hk0, ?_⟩ (by simp only; omega)
        ·cases hh : matchQ bs (s, turnV v k, k) with
         | false => rfl
         | true => have := ((hmi _).1 hh).1; simp only at this; omega
        ·simp only
         rw [hsb true hbq hk0, Bool.or_true, if_pos (.inr rfl)]
   ·refine X_exit rfl (X_seq ?_)
    obtain rfl : s = n := by omega
    have hqe : codesTo ls s = qcodes ls := by unfold qcodes; rw [hl]
    rw [hqe] at hfn hee
    rw [hfn] at hTS
    simp only at hTS
    have hfin : T = (0, 0, e) := by
     rw [hTS, hee]
     by_cases h0 : bs.length = 0
     ·have hsn := short_nil hok x
      rw [h0, if_pos hsn]; simp
     ·by_cases h1 : shortB (qcodes ls) bs.length x = true
      ·rw [if_pos h1, if_pos (.inr h1)]
      ·rw [if_neg h1, if_neg (by rintro (h2 | h2); exact h0 h2; exact h1 h2)]
    refine X_reg (XV rfl rfl rfl (XA rfl rfl rfl (XA rfl rfl rfl (XA rfl rfl rfl (XR_nil ?_)))))
    refine X_ret (.cons (.tmp rfl) (.cons (.tmp rfl) (.cons (.tmp rfl) .nil))) ?_
    rw [hfin]
    exact ⟨rfl, hxt⟩
  ·refine XR_no rfl rfl (XR_no rfl rfl (XR_no rfl rfl (XR_no rfl rfl (XR_a (op_pick_f rfl rfl) rfl rfl (XR_nil (X_else rfl (X_exit rfl (X_seq ?_))))))))
   obtain rfl : s = n := by omega
   have hqe : codesTo ls s = qcodes ls := by unfold qcodes; rw [hl]
   rw [hqe] at hfn hee
   rw [hfn] at hTS
   simp only at hTS
   have hfin : T = (0, 0, e) := by
    rw [hTS, hee]
    by_cases h0 : bs.length = 0
    ·have hsn := short_nil hok x
     rw [h0, if_pos hsn]; simp
    ·by_cases h1 : shortB (qcodes ls) bs.length x = true
     ·rw [if_pos h1, if_pos (.inr h1)]
     ·rw [if_neg h1, if_neg (by rintro (h2 | h2); exact h0 h2; exact h1 h2)]
   refine X_reg (XV rfl rfl rfl (XA rfl rfl rfl (XA rfl rfl rfl (XA rfl rfl rfl (XR_nil ?_)))))
   refine X_ret (.cons (.tmp rfl) (.cons (.tmp rfl) (.cons (.tmp rfl) .nil))) ?_
   rw [hfin]
   exact ⟨rfl, hxt⟩
end Go.Bn
end

section
set_option linter.unusedVariables false
set_option linter.unusedSimpArgs false
namespace Go.Bn
def rW (s : Nat) : Nat := if s = 16 then 2 else if s = 17 then 3 else if s = 18 then 7 else 0
def rL (s : Nat) : Nat := if s = 16 then 3 else if s = 17 then 3 else if s = 18 then 11 else 1
def rH (s : Nat) : Nat := if s = 16 then 6 else if s = 17 then 10 else if s = 18 then 138 else 1
def rV (l : List Nat) (s : Nat) : Nat := if s = 16 then l.getD (l.length - 1) 0 else if 16 < s then 0 else s
def rAdd (l : List Nat) (s m : Nat) : List Nat := l ++ List.replicate m (rV l s)
theorem rW_le (s : Nat) : rW s ≤ 7 := by unfold rW; split <;> (try split) <;> (try split) <;> omega
theorem rL_pos (s : Nat) : 1 ≤ rL s := by unfold rL; split <;> (try split) <;> (try split) <;> omega
theorem rL_num {s n : Nat} (h : n < 2 ^ rW s) : rL s + n ≤ rH s := by
 unfold rW at h; unfold rL rH
 split at h
 ·simp_all; omega
 ·split at h
  ·simp_all; omega
  ·split at h
   ·simp_all; omega
   ·simp_all
theorem rH_le (s : Nat) : rH s ≤ 138 := by unfold rH; split <;> (try split) <;> (try split) <;> omega
theorem rAdd_len (l : List Nat) (s m : Nat) : (rAdd l s m).length = l.length + m := by simp [rAdd]
noncomputable def goT (ls : List Nat) (bs : List Bool) (n : Nat) : Nat → Nat → List Nat → List Nat × Nat × Nat
  | 0, _, _ => ([], 0, 3)
  | f + 1, a, l => if n ≤ l.length then (l, a, 0) else if (takeC ls (bs.drop a)).2.2 ≠ 0 then ([], 0, (takeC ls (bs.drop a)).2.2) else
    if bs.length < a + (takeC ls (bs.drop a)).2.1 + rW (takeC ls (bs.drop a)).1 then ([], 0, 2) else if (takeC ls (bs.drop a)).1 = 16 ∧ l.length = 0 then ([], 0, 3) else
    if n < l.length + (rL (takeC ls (bs.drop a)).1 + numB bs (a + (takeC ls (bs.drop a)).2.1) (rW (takeC ls (bs.drop a)).1)) then ([], 0, 3) else
      goT ls bs n f (a + (takeC ls (bs.drop a)).2.1 + rW (takeC ls (bs.drop a)).1) (rAdd l (takeC ls (bs.drop a)).1 (rL (takeC ls (bs.drop a)).1 + numB bs (a + (takeC ls (bs.drop a)).2.1) (rW (takeC ls (bs.drop a)).1)))
def lens19 (bs : List Bool) (a i : Nat) : List Nat := (List.range 19).map fun k => if k < i then numB bs (a + 4 * k) 4 else 0
theorem lens19_len (bs : List Bool) (a i : Nat) : (lens19 bs a i).length = 19 := by simp [lens19]
theorem lens19_zero (bs : List Bool) (a : Nat) : lens19 bs a 0 = List.replicate 19 0 := by
 refine List.ext_getElem (by simp [lens19]) fun i h1 h2 => ?_
 simp only [lens19, List.getElem_map, List.getElem_range, List.getElem_replicate]
 rw [if_neg (by omega)]
theorem lens19_set {bs : List Bool} {a i : Nat} (hi : i < 19) : (lens19 bs a i).set i (numB bs (a + 4 * i) 4) = lens19 bs a (i + 1) := by
 refine List.ext_getElem (by simp [lens19]) fun k h1 h2 => ?_
 rw [List.getElem_set]
 simp only [lens19, List.getElem_map, List.getElem_range]
 by_cases h : i = k
 ·subst h; rw [if_pos rfl, if_pos (by omega)]
 ·rw [if_neg h]
  by_cases h3 : k < i
  ·rw [if_pos h3, if_pos (by omega)]
  ·rw [if_neg h3, if_neg (by omega)]
def headE (bs : List Bool) (a : Nat) (ok : Bool) : Nat := if bs.length < a + 9 then 2 else if numB bs a 9 < 1 ∨ 320 < numB bs a 9 then 5 else if bs.length < a + 85 then 2 else if ok = true then 0 else 13
noncomputable def takeR (bs : List Bool) (a : Nat) (ok : Bool) : List Nat × Nat × Nat := if headE bs a ok ≠ 0 then ([], 0, headE bs a ok) else goT (lens19 bs (a + 9) 19) bs (numB bs a 9) 321 (a + 85) []
theorem takeC_sym {ls : List Nat} (hok : lensOK ls) {bs : List Bool} (h : (takeC ls bs).2.2 = 0) : ∃ hs : (takeC ls bs).1 < ls.length, ls[(takeC ls bs).1] ≠ 0 ∧ (takeC ls bs).2.1 = ls[(takeC ls bs).1] := by
 rw [takeC_S hok] at h ⊢
 unfold takeS at h ⊢
 cases hf : (qcodes ls).find? (matchQ bs) with
 | none =>
  exfalso
  simp only [hf] at h
  split at h <;> simp at h
 | some c =>
  obtain ⟨s, hs, h0, rfl⟩ := mem_qcodes.1 (List.mem_of_find?_eq_some hf)
  exact ⟨hs, h0, rfl⟩
theorem takeC_pos {ls : List Nat} (hok : lensOK ls) {bs : List Bool} (h : (takeC ls bs).2.2 = 0) : 1 ≤ (takeC ls bs).2.1 := by
 obtain ⟨hs, h0, e⟩ := takeC_sym hok h
 omega
def eqRun (x : Nat) : List Nat → Nat
  | [] => 0
  | y :: r => if y = x then eqRun x r + 1 else 0
theorem eqRun_le (x : Nat) : ∀ l : List Nat, eqRun x l ≤ l.length
 | [] => Nat.le_refl _
 | y :: r => by
  have := eqRun_le x r
  unfold eqRun; split <;> simp <;> omega
theorem eqRun_take {x : Nat} : ∀ {l : List Nat} {m : Nat}, m ≤ eqRun x l → l.take m = List.replicate m x
 | [], m, h => by
  obtain rfl : m = 0 := by simpa [eqRun] using h
  rfl
 | y :: r, 0, h => rfl
 | y :: r, m + 1, h => by
  unfold eqRun at h
  split at h
  ·rename_i he
   rw [List.take_succ_cons, List.replicate_succ, he, eqRun_take (x := x) (l := r) (m := m) (by omega)]
  ·omega
def runAt (l : List Nat) (at_ : Nat) : Nat := eqRun (l.getD at_ 0) (l.drop at_)
theorem runAt_pos {l : List Nat} {at_ : Nat} (h : at_ < l.length) : 1 ≤ runAt l at_ := by
 unfold runAt
 rw [List.drop_eq_getElem_cons h, getD_get h]
 unfold eqRun
 rw [if_pos rfl]; omega
theorem runAt_le (l : List Nat) (at_ : Nat) : runAt l at_ ≤ l.length - at_ := by
 have := eqRun_le (l.getD at_ 0) (l.drop at_)
 rwa [List.length_drop] at this
def partAt (l : List Nat) (at_ : Nat) : Nat × Nat :=
  if l.getD at_ 0 = 0 ∧ 11 ≤ runAt l at_ then (18, min (runAt l at_) 138) else if l.getD at_ 0 = 0 ∧ 3 ≤ runAt l at_ then (17, runAt l at_) else
  if 0 < at_ ∧ l.getD at_ 0 = l.getD (at_ - 1) 0 ∧ 3 ≤ runAt l at_ then (16, min (runAt l at_) 6) else (l.getD at_ 0, 1)
theorem partAt_many {l : List Nat} {at_ : Nat} (h : at_ < l.length) : 1 ≤ (partAt l at_).2 ∧ (partAt l at_).2 ≤ runAt l at_ := by
 have h1 := runAt_pos h
 unfold partAt
 split
 ·simp only; omega
 ·split
  ·simp only; omega
  ·split <;> simp only <;> omega
theorem partAt_fits {l : List Nat} {at_ : Nat} (hb : ∀ x ∈ l, x ≤ 15) (h : at_ < l.length) : (partAt l at_).1 < 19 ∧ rL (partAt l at_).1 ≤ (partAt l at_).2 ∧ (partAt l at_).2 ≤ rH (partAt l at_).1 ∧ ((partAt l at_).1 = 16 → 0 < at_) := by
 have hx := hb l[at_] (List.getElem_mem h)
 rw [← getD_get h] at hx
 unfold partAt
 split
 ·exact ⟨by show 18 < 19; omega, by show 11 ≤ _; omega, by show _ ≤ 138; omega, fun k => by cases k⟩
 ·split
  ·exact ⟨by show 17 < 19; omega, by show 3 ≤ _; omega, by show _ ≤ 10; omega, fun k => by cases k⟩
  ·split
   ·exact ⟨by show 16 < 19; omega, by show 3 ≤ _; omega, by show _ ≤ 6; omega, fun _ => by omega⟩
   ·refine ⟨by simp only; omega, ?_, ?_, fun k => by simp only at k; omega⟩
    ·simp only; unfold rL; rw [if_neg (by omega), if_neg (by omega), if_neg (by omega)]; exact Nat.le_refl _
    ·simp only; unfold rH; rw [if_neg (by omega), if_neg (by omega), if_neg (by omega)]; exact Nat.le_refl _
theorem partAt_add {l : List Nat} {at_ : Nat} (hb : ∀ x ∈ l, x ≤ 15) (h : at_ < l.length) : rAdd (l.take at_) (partAt l at_).1 (partAt l at_).2 = l.take (at_ + (partAt l at_).2) := by
 have hm := partAt_many h
 have hv : rV (l.take at_) (partAt l at_).1 = l.getD at_ 0 := by
  have hx := hb l[at_] (List.getElem_mem h)
  rw [← getD_get h] at hx
  unfold partAt
  split
  ·rename_i hh; rw [hh.1]; rfl
  ·split
   ·rename_i hh; rw [hh.1]; rfl
   ·split
    ·rename_i hh
     unfold rV
     rw [if_pos rfl, List.length_take, Nat.min_eq_left (by omega), hh.2.1, List.getD, List.getElem?_take, if_pos (by omega)]; rfl
    ·unfold rV
     rw [if_neg (by simp only; omega), if_neg (by simp only; omega)]
 unfold rAdd
 rw [hv, List.take_add]
 congr 1
 exact (eqRun_take hm.2).symm
def partsF (l : List Nat) : Nat → Nat → List (Nat × Nat)
  | 0, _ => []
  | f + 1, at_ => if at_ < l.length then partAt l at_ :: partsF l f (at_ + (partAt l at_).2) else []
theorem partsF_fuel (l : List Nat) : ∀ (f g at_ : Nat), l.length ≤ at_ + f → l.length ≤ at_ + g → partsF l f at_ = partsF l g at_
 | 0, 0, _, _, _ => rfl
 | 0, g + 1, at_, h, _ => by rw [partsF, partsF, if_neg (by omega)]
 | f + 1, 0, at_, _, h => by rw [partsF, partsF, if_neg (by omega)]
 | f + 1, g + 1, at_, h1, h2 => by
  rw [partsF, partsF]
  by_cases h : at_ < l.length
  ·have := partAt_many h
   rw [if_pos h, if_pos h, partsF_fuel l f g _ (by omega) (by omega)]
  ·rw [if_neg h, if_neg h]
def partsL (l : List Nat) (at_ : Nat) : List (Nat × Nat) := partsF l (l.length - at_) at_
theorem partsL_end {l : List Nat} {at_ : Nat} (h : l.length ≤ at_) : partsL l at_ = [] := by
 unfold partsL
 rw [show l.length - at_ = 0 by omega]; rfl
theorem partsL_cons {l : List Nat} {at_ : Nat} (h : at_ < l.length) : partsL l at_ = partAt l at_ :: partsL l (at_ + (partAt l at_).2) := by
 unfold partsL
 have := partAt_many h
 rw [show l.length - at_ = (l.length - at_ - 1) + 1 by omega, partsF, if_pos h, partsF_fuel l (l.length - at_ - 1) (l.length - (at_ + (partAt l at_).2)) _ (by omega) (by omega)]
end Go.Bn
end

section
set_option linter.unusedVariables false
set_option linter.unusedSimpArgs false
namespace Go.Bn
open Go
section
variable {P : Program} {E : Env} {hp : Heap} {cl : Cls} {d : Option Tmp} {ty : TypeId} {pos : String} {af : Array Edge} {g : Option (Nat × Bool)}
variable {x y z : Operand} {t t' : TypeId}
theorem opl_varA {e sz b : Nat} {zs us : List Value} {ua : Array Value} (hx : ev E x = some (.agg ua)) (ht : sliceI P t = some (e, sz, b, zs)) (hn : Nat.ble (1 * sz) 16777216 = true) (hs : Nat.blt 0 (1 * sz) = true) (hc : sliceCells 1 sz zs [(0, .agg ua)] = some us.toArray) :
  OpL P ⟨d, .buildSlice t 1 #[(0, x)], ty, pos, af, g⟩ E hp (fun u hp' => ∃ A, u = .slice A 1 1 ∧ Ext hp hp' ∧ Rd hp' A us) := by
 intro n a w ho hw K hK
 have hps : evP E (#[(0, x)] : Array (Nat × Operand)).toList = some [(0, .agg ua)] := by simp [evP, hx]
 exact opl_buildSlice hps ht hn hs hc n a w ho hw K fun v' w' hi ⟨h1, h2⟩ => hK v' w' hi ⟨_, h1, by rw [h2]; exact ext_push _ _, by rw [h2]; exact rd_push _ _ _⟩
theorem op_orS {m n : Nat} (hx : ev E x = some (.int .i64 (m : Int))) (hy : ev E y = some (.int .i64 (n : Int))) (hm : m < 2 ^ 63) (hn : n < 2 ^ 63) : Op1 cl P ⟨d, .binOp .or t x y t', ty, pos, af, g⟩ E hp (.int .i64 ((m ||| n : Nat) : Int)) := by
 have := op_or (cl := cl) (P := P) (hp := hp) (d := d) (ty := ty) (pos := pos) (af := af) (g := g) (t := t) (t' := t') hx hy
 rw [bitsOp_nat .or m n (by simp only [IntKind.bits]; omega) (by simp only [IntKind.bits]; omega)] at this
 simp only at this
 have h3 := Nat.or_lt_two_pow hm hn
 rwa [wrap_in (by simp only [inK]; omega)] at this
def mapI (P : Program) (t : TypeId) : Bool :=
  match P.underlying t with
  | some (.map k _) => match P.underlying k with
    | some (.int .i64) => true
    | _ => false
  | _ => false
theorem mapI_spec (h : mapI P t = true) : ∃ k e, P.underlying t = some (.map k e) ∧ P.underlying k = some (.int .i64) := by
 unfold mapI at h
 split at h
 ·rename_i k e hu
  split at h
  ·rename_i hk; exact ⟨k, e, hu, hk⟩
  ·cases h
 ·cases h
theorem run_checkKey_int {kt : TypeId} {b : Bool} {k : Int} {w : World} (hk : P.underlying kt = some (.int .i64)) : (Instr.checkKey b 10000 kt (.int .i64 k)).run P w = .ok () w := by
 exact MapKept.run_checkKey hk (by simp [MapKept.IsKey]) b 9999
end
end Go.Bn
end

section
set_option linter.unusedVariables false
namespace Go.Bn
open Go
theorem flat_get {α : Type} (f : α → List Value) (s : Nat) (hf : ∀ x, (f x).length = s) : ∀ (l : List α) (i j : Nat) (hi : i < l.length), j < s → (l.flatMap f)[i * s + j]? = (f l[i])[j]?
 | x :: r, 0, j, _, hj => by
  rw [List.flatMap_cons, Nat.zero_mul, Nat.zero_add, List.getElem?_append_left (by rw [hf]; exact hj)]; rfl
 | x :: r, i + 1, j, hi, hj => by
  rw [List.flatMap_cons, List.getElem?_append_right (by rw [hf, Nat.add_mul, Nat.one_mul]; omega), hf, show (i + 1) * s + j - s = i * s + j by rw [Nat.add_mul, Nat.one_mul]; omega]
  exact flat_get f s hf r i j (by simpa using hi) hj
theorem flat_length {α : Type} (f : α → List Value) (s : Nat) (hf : ∀ x, (f x).length = s) (l : List α) : (l.flatMap f).length = l.length * s := by
 induction l with
 | nil => simp
 | cons x r ih => rw [List.flatMap_cons, List.length_append, hf, ih, List.length_cons, Nat.add_mul, Nat.one_mul]; omega
theorem Rd.flat {α : Type} {hp : Heap} {A : Option Addr} {l : List α} (f : α → List Value) (s : Nat) (h : Rd hp A (l.flatMap f)) (hf : ∀ x, (f x).length = s) (hs : 0 < s) (hl : 0 < l.length) :
  ∃ b o, A = some ⟨b, o, none⟩ ∧ ∀ i (hi : i < l.length) j v, (f l[i])[j]? = some v → cellH hp ⟨b, o + i * s + j, none⟩ = some v := by
 obtain ⟨b, o, e, hc⟩ := h.at_ (by rw [flat_length f s hf]; exact Nat.mul_pos hl hs)
 refine ⟨b, o, e, fun i hi j v hv => ?_⟩
 have hj : j < s := by
  have := (List.getElem?_eq_some_iff.1 hv).1
  rwa [hf] at this
 have := hc (i * s + j) v (by rw [flat_get f s hf l i j hi hj]; exact hv)
 rwa [← Nat.add_assoc] at this
end Go.Bn
end

section
namespace Go.Bn
open Go Go.ChangeShapes Go.WideShapes
theorem addr_of_cell {w : World} {x : Addr} {v : Value} (h : w.cell? (x.add 0) = some v) : x = ⟨x.block, x.off, none⟩ := by
 rw [addr_zero] at h
 unfold World.cell? at h
 split at h
 ·cases hs : x.spot with
  | none => cases x; simp_all
  | some s => rw [hs] at h; simp at h
 ·cases h
theorem rd_of_cells {W : World} {x : Addr} {vs : List Value} (hc : ∀ i u, vs[i]? = some u → W.cell? (x.add i) = some u) : Rd W.heap (some x) vs := by
 cases vs with
 | nil => exact .inl rfl
 | cons v r =>
  have h0 := addr_of_cell (hc 0 v rfl)
  refine .inr ⟨x.block, x.off, by rw [← h0], fun i u hu => ?_⟩
  have := hc i u hu
  rw [h0, addr_add] at this
  exact this
section
variable {H : Type} {enc : TypeId × Value → H} {P : Program} {W : World} {base : Nat} {spare : Nat → Bool} {held : Bool} {t e : TypeId} {a : Option Addr} {len cap : Nat} {d : DataW H} {ps : List MemPlace}
theorem arg_ints {k : IntKind} (hu : P.underlying t = some (.slice e)) (he : P.underlying e = some (.int k)) (hc : P.cellsOf e = 1) (h : DataW.Trod enc P W base spare held t (.slice a len cap) d ps) :
  ∃ l : List Int, l.length = len ∧ len ≤ cap ∧ cap ≤ maxLen ∧ Rd W.heap a (l.map (Value.int k)) ∧ ∀ n ∈ l, (Lit.int k n).wf = true := by
 obtain ⟨fuel, hf⟩ := h
 rcases open_ints hu he hc hf with ⟨hcs, _⟩ | ⟨x, l, c, zs, hcs, _, hl, hm, hz, _, hcell, hwz⟩
 ·simp [Value.cells] at hcs
  obtain ⟨rfl, rfl, rfl⟩ := hcs
  exact ⟨[], rfl, Nat.le_refl _, by simp [maxLen], .inl rfl, by simp⟩
 ·simp [Value.cells] at hcs
  obtain ⟨rfl, rfl, rfl⟩ := hcs
  have hl2 : len ≤ zs.length := by rw [hz]; split <;> omega
  refine ⟨zs.take len, by simp; omega, hl, hm, rd_of_cells fun i u hu => ?_, fun n hn => hwz n (List.mem_of_mem_take hn)⟩
  have hi : i < len := by
   have := (List.getElem?_eq_some_iff.1 hu).1
   simp at this; omega
  rw [hcell i (by omega)]
  rw [List.getElem?_map, List.getElem?_take, if_pos hi] at hu
  simp only [List.getD_eq_getElem?_getD]
  rw [List.getElem?_eq_getElem (show i < zs.length by omega)] at hu ⊢
  simpa using hu
theorem arg_bytes (hu : P.underlying t = some (.slice e)) (he : P.underlying e = some (.int .u8)) (hc : P.cellsOf e = 1) (h : DataW.Trod enc P W base spare held t (.slice a len cap) d ps) :
  ∃ l : List UInt8, l.length = len ∧ len ≤ cap ∧ cap ≤ maxLen ∧ Rd W.heap a (l.map byteV) := by
 obtain ⟨l, h1, h2, h3, h4, h5⟩ := arg_ints hu he hc h
 refine ⟨l.map fun z => UInt8.ofNat z.toNat, by simpa using h1, h2, h3, ?_⟩
 have e : (l.map fun z => UInt8.ofNat z.toNat).map byteV = l.map (Value.int .u8) := by
  rw [List.map_map]
  refine List.map_congr_left fun z hz => ?_
  have hw := h5 z hz
  have hb : 0 ≤ z ∧ z ≤ 255 := bounds_u8 hw
  simp only [Function.comp, byteV]
  congr 1
  have : (UInt8.ofNat z.toNat).toNat = z.toNat := by simp; omega
  rw [this]; omega
 rw [e]; exact h4
theorem arg_size {k : IntKind} {ts : List TypeId} {ds : List (DataW H)} {j : Nat} (hsz : (DataW.weightsEach P ts ds).all (· ≤ reachBytes) = true) (ht : ts[j]? = some t) (hd : ds[j]? = some d) (hu : P.underlying t = some (.slice e)) (he : P.underlying e = some (.int k))
  (hc : P.cellsOf e = 1) {B : Nat} (hB : P.bytesOf e = B) (h : DataW.Trod enc P W base spare held t (.slice a len cap) d ps) : len * B ≤ 140737488351232 := by
 obtain ⟨fuel, hf⟩ := h
 rcases open_ints hu he hc hf with ⟨hcs, _⟩ | ⟨x, l, c, zs, hcs, _, hl, _, hz, hx, _, _⟩
 ·simp [Value.cells] at hcs
  obtain ⟨rfl, rfl, rfl⟩ := hcs
  simp
 ·simp [Value.cells] at hcs
  obtain ⟨rfl, rfl, rfl⟩ := hcs
  obtain ⟨hx, _⟩ := Prod.mk.inj hx
  subst hx
  have z := sized_slice hsz ht hd hu
  rw [hB] at z
  have hl2 : len ≤ zs.length := by rw [hz]; split <;> omega
  have h1 : (lits (H := H) k (zs.take len)).length + (lits (H := H) k (zs.drop len)).length = zs.length := by
   simp [lits]; omega
  rw [h1] at z
  exact Nat.le_trans (Nat.mul_le_mul_right _ hl2) z
theorem wf_in {k : IntKind} {n : Int} (h : (Lit.int k n).wf = true) : inK k n := by
 cases k
 ·exact bounds_i8 h
 ·exact bounds_i16 h
 ·exact bounds_i32 h
 ·exact bounds_i64 h
 ·exact bounds_u8 h
 ·exact bounds_u16 h
 ·exact bounds_u32 h
 ·exact bounds_u64 h
end
end Go.Bn
end

section
set_option linter.unusedVariables false
namespace Go.Bn
open Go Go.ChangeShapes Go.WideShapes Go.Deep
section
variable {H : Type} {enc : TypeId × Value → H} {P : Program} {W : World} {base : Nat} {spare : Nat → Bool} {held : Bool} {t e : TypeId} {a : Option Addr} {len cap : Nat} {d : DataW H} {ps : List MemPlace}
end
inductive Kd where
  | i (k : IntKind)
  | b
def Kd.ok : Kd → Value → Prop
  | .i k, v => ∃ n, v = .int k n ∧ inK k n
  | .b, v => ∃ x, v = .bool x
section
variable {H : Type} {enc : TypeId × Value → H} {P : Program} {W : World} {base : Nat} {spare : Nat → Bool} {held : Bool}
end
end Go.Bn
end

section
set_option linter.unusedVariables false
namespace Go.Bn
open Go Go.ChangeShapes Go.WideShapes Go.Deep
inductive Sh where
  | i (k : IntKind)
  | b
  | str
  | sl (ks : List Sh)
def all2 (p : Sh → Value → Prop) : List Sh → List Value → Prop
  | [], [] => True
  | k :: ks, v :: vs => p k v ∧ all2 p ks vs
  | _, _ => False
theorem all2_append {p : Sh → Value → Prop} : ∀ {ks ks' : List Sh} {vs vs' : List Value}, all2 p ks vs → all2 p ks' vs' → all2 p (ks ++ ks') (vs ++ vs')
 | [], _, [], _, _, h => h
 | _ :: ks, _, _ :: vs, _, h, h' => ⟨h.1, all2_append (ks := ks) h.2 h'⟩
 | [], _, _ :: _, _, h, _ => h.elim
 | _ :: _, _, [], _, h, _ => h.elim
theorem all2_cons {p : Sh → Value → Prop} {k : Sh} {ks : List Sh} {l : List Value} (h : all2 p (k :: ks) l) : ∃ v r, l = v :: r ∧ p k v ∧ all2 p ks r := by
 cases l with
 | nil => exact h.elim
 | cons v r => exact ⟨v, r, rfl, h.1, h.2⟩
theorem all2_nil {p : Sh → Value → Prop} {l : List Value} (h : all2 p [] l) : l = [] := by
 cases l with
 | nil => rfl
 | cons v r => exact h.elim
def okS (hp : Heap) : Nat → Sh → Value → Prop
  | 0, _, _ => False
  | _ + 1, .i k, v => ∃ n, v = .int k n ∧ inK k n
  | _ + 1, .b, v => ∃ x, v = .bool x
  | _ + 1, .str, v => ∃ s : ByteArray, v = .string s ∧ s.size ≤ maxLen
  | d + 1, .sl ks, v => ∃ A n c, v = .slice A n c ∧ n ≤ c ∧ c ≤ maxLen ∧ ∃ ll : List (List Value), ll.length = n ∧ Rd hp A ll.flatten ∧ ∀ x ∈ ll, all2 (okS hp d) ks x
def shF (P : Program) (rec : TypeId → Option (List Sh)) : Nat → List Field → Option (List Sh)
  | _, [] => some []
  | o, f :: r => match Nat.beq f.offset o, rec f.type with
    | true, some ks => match Nat.beq (P.cellsOf f.type) ks.length, shF P rec (o + ks.length) r with
      | true, some rest => some (ks ++ rest)
      | _, _ => none
    | _, _ => none
def shK (P : Program) : Nat → TypeId → Option (List Sh)
  | 0, _ => none
  | d + 1, t => match P.underlying t with
    | some (.int k) => some [.i k]
    | some .bool => some [.b]
    | some .string => some [.str]
    | some (.slice e) => match shK P d e with
      | some ks => match Nat.beq (P.cellsOf e) ks.length && Nat.blt 0 ks.length with
        | true => some [.sl ks]
        | false => none
      | none => none
    | some (.struct fs) => shF P (shK P d) 0 fs.toList
    | _ => none
theorem okS_more {hp : Heap} : ∀ (d d' : Nat) {s : Sh} {v : Value}, d ≤ d' → okS hp d s v → okS hp d' s v
 | 0, _, _, _, _, h => h.elim
 | d + 1, 0, _, _, h, _ => by omega
 | d + 1, d' + 1, .i _, _, _, h => h
 | d + 1, d' + 1, .b, _, _, h => h
 | d + 1, d' + 1, .str, _, _, h => h
 | d + 1, d' + 1, .sl ks, v, hd, h => by
  obtain ⟨A, n, c, rfl, h1, h2, ll, h3, h4, h5⟩ := h
  refine ⟨A, n, c, rfl, h1, h2, ll, h3, h4, fun x hx => ?_⟩
  have := h5 x hx
  clear h5 h4 h3
  have key : ∀ (ks : List Sh) (x : List Value), all2 (okS hp d) ks x → all2 (okS hp d') ks x := by
   intro ks
   induction ks with
   | nil =>
    intro x hx
    cases x with
    | nil => trivial
    | cons _ _ => exact hx.elim
   | cons k r ih =>
    intro x hx
    cases x with
    | nil => exact hx
    | cons v vs => exact ⟨okS_more d d' (by omega) hx.1, ih vs hx.2⟩
  exact key ks x this
theorem all2_more {hp : Heap} {d d' : Nat} (h : d ≤ d') : ∀ {ks : List Sh} {x : List Value}, all2 (okS hp d) ks x → all2 (okS hp d') ks x
 | [], [], _ => trivial
 | [], _ :: _, hx => hx.elim
 | _ :: _, [], hx => hx.elim
 | _ :: _, _ :: _, hx => ⟨okS_more d d' h hx.1, all2_more h hx.2⟩
theorem flatten_get {s : Nat} (hs : 0 < s) : ∀ (ll : List (List Value)), (∀ x ∈ ll, x.length = s) → ll.flatten.length = ll.length * s ∧ ∀ k, k < ll.length * s → ll.flatten[k]? = (ll.getD (k / s) [])[k % s]?
 | [], _ => ⟨by simp, fun k hk => by simp at hk⟩
 | x :: r, h => by
  have hx := h x List.mem_cons_self
  obtain ⟨h1, h2⟩ := flatten_get hs r fun y hy => h y (List.mem_cons_of_mem _ hy)
  refine ⟨by simp only [List.flatten_cons, List.length_append, h1, hx, List.length_cons, Nat.add_mul]; omega, fun k hk => ?_⟩
  rw [List.flatten_cons]
  by_cases hk2 : k < s
  ·rw [List.getElem?_append_left (by omega), Nat.div_eq_of_lt hk2, Nat.mod_eq_of_lt hk2]; rfl
  ·rw [List.getElem?_append_right (by omega), hx]
   have hk3 : k - s < r.length * s := by
    rw [List.length_cons, Nat.add_mul] at hk; omega
   rw [h2 _ hk3]
   have e1 : k / s = (k - s) / s + 1 := by rw [Nat.div_eq_sub_div hs (by omega)]
   have e2 : k % s = (k - s) % s := Nat.mod_eq_sub_mod (by omega)
   rw [e1, e2]; rfl
section
variable {H : Type} {enc : TypeId × Value → H} {P : Program} {W : World} {base : Nat} {spare : Nat → Bool} {held : Bool}
theorem trod_sh : ∀ (dd : Nat) {t : TypeId} {ks : List Sh} {n : Nat} {cs : List Value} {y : DataW H × List MemPlace}, shK P dd t = some ks → cs.length = ks.length → DataW.trod enc P W base spare held n t cs = some y → all2 (okS W.heap dd) ks cs
 | 0, _, _, _, _, _, h, _, _ => by simp [shK] at h
 | dd + 1, t, ks, n, cs, y, h, hl, ht => by
  unfold shK at h
  split at h
  ·rename_i k hu
   cases h
   obtain ⟨m, rfl, _, hw⟩ := DataW.trod_int hu ht
   exact ⟨⟨m, rfl, wf_in hw⟩, trivial⟩
  ·rename_i hu
   cases h
   obtain ⟨b, rfl, _⟩ := DataW.trod_bool hu ht
   exact ⟨⟨b, rfl⟩, trivial⟩
  ·rename_i hu
   cases h
   obtain ⟨b, rfl, _, hm⟩ := DataW.trod_string hu ht
   exact ⟨⟨b, rfl, hm⟩, trivial⟩
  ·rename_i e hu
   split at h
   ·rename_i ks' hk
    split at h
    ·rename_i hb
     cases h
     have hb1 : P.cellsOf e = ks'.length := Nat.eq_of_beq_eq_true (by simp only [Bool.and_eq_true] at hb; exact hb.1)
     have hb2 : 0 < ks'.length := by simp only [Bool.and_eq_true, Nat.blt_eq] at hb; exact hb.2
     rcases open_slice hu ht with ⟨hcs, _⟩ | ⟨x, len, cap, m, n', D, Pl, hcs, _, hle, hm, hmm, _, hx⟩
     ·subst hcs
      exact ⟨⟨none, 0, 0, rfl, Nat.le_refl _, by simp [maxLen], [], rfl, .inl rfl, by simp⟩, trivial⟩
     ·subst hcs
      refine ⟨?_, trivial⟩
      have hlm : len ≤ m := by rw [hmm]; split <;> omega
      have each : ∀ i, i < len → ∃ z : List Value, z.length = ks'.length ∧ (∀ j, j < ks'.length → W.cell? (x.add (i * ks'.length + j)) = z[j]?) ∧ all2 (okS W.heap dd) ks' z := by
       intro i hi
       obtain ⟨cs', h1, h2⟩ := hx i (by omega)
       rw [hb1] at h1
       obtain ⟨_, hlen, hcell⟩ := World.cells?_some h1
       exact ⟨cs', hlen, fun j hj => by rw [← hcell j hj, Deep.add_add], trod_sh dd hk hlen h2⟩
      obtain ⟨X, hX⟩ := Deep.choose_lt each
      refine ⟨some x, len, cap, rfl, hle, hm, (List.range len).map X, by simp, rd_of_cells fun k u hk => ?_, ?_⟩
      ·obtain ⟨f1, f2⟩ := flatten_get hb2 ((List.range len).map X) (by
        intro z hz; obtain ⟨i, hi, rfl⟩ := List.mem_map.1 hz; exact (hX i (List.mem_range.1 hi)).1)
       have hk2 : k < len * ks'.length := by
        have := (List.getElem?_eq_some_iff.1 hk).1
        rwa [f1, List.length_map, List.length_range] at this
       have hi : k / ks'.length < len := Nat.div_lt_of_lt_mul (by rwa [Nat.mul_comm] at hk2)
       have hj : k % ks'.length < ks'.length := Nat.mod_lt _ hb2
       have hkk : k / ks'.length * ks'.length + k % ks'.length = k := by rw [Nat.mul_comm]; exact Nat.div_add_mod k _
       have h3 := f2 k (by simpa using hk2)
       have h4 := (hX (k / ks'.length) hi).2.1 (k % ks'.length) hj
       rw [hkk] at h4
       rw [h4, ← hk, h3]
       simp [List.getD, hi]
      ·intro z hz
       obtain ⟨i, hi, rfl⟩ := List.mem_map.1 hz
       exact (hX i (List.mem_range.1 hi)).2.2
    ·cases h
   ·cases h
  ·rename_i fs hu
   obtain ⟨xs, m, _, _, hlen, hxl, hf⟩ := DataW.trod_struct hu ht
   have hf' : ∀ (i : Nat) (f : Field), fs.toList[i]? = some f → ∃ z, DataW.trod enc P W base spare held m f.type ((cs.drop f.offset).take (P.cellsOf f.type)) = some z := by
    intro i f hi
    have hlt := (List.getElem?_eq_some_iff.1 hi).1
    have h1 := hf i f (by simpa using hi)
    rw [List.getElem?_eq_getElem (show i < xs.length by rw [hxl]; simpa using hlt)] at h1
    exact ⟨_, h1⟩
   clear hf hxl ht hu
   generalize fs.toList = l at h hf'
   suffices key : ∀ (l : List Field) (o : Nat) (ks : List Sh), shF P (shK P dd) o l = some ks → (∀ (i : Nat) (f : Field), l[i]? = some f → ∃ z, DataW.trod enc P W base spare held m f.type ((cs.drop f.offset).take (P.cellsOf f.type)) = some z) → cs.length = o + ks.length → all2 (okS W.heap (dd + 1)) ks (cs.drop o) by
    have := key l 0 ks h hf' (by omega)
    simpa using this
   intro l
   induction l with
   | nil =>
    intro o ks h _ hl
    simp only [shF] at h
    cases h
    rw [List.drop_of_length_le (by simp at hl; omega)]
    exact trivial
   | cons f r ih =>
    intro o ks h hf hl
    simp only [shF] at h
    split at h
    ·rename_i k1 ho hk
     split at h
     ·rename_i rest hc hr
      cases h
      have ho := Nat.eq_of_beq_eq_true ho
      have hc := Nat.eq_of_beq_eq_true hc
      obtain ⟨z, hz⟩ := hf 0 f rfl
      rw [ho, hc] at hz
      rw [List.length_append] at hl
      have g1 := all2_more (Nat.le_succ dd) (trod_sh dd hk (by rw [List.length_take, List.length_drop]; omega) hz)
      have g2 := ih (o + k1.length) rest hr (fun i f hi => hf (i + 1) f hi) (by omega)
      have := all2_append g1 g2
      rwa [← List.drop_drop, List.take_append_drop] at this
     ·cases h
    ·cases h
  ·cases h
theorem arg_sl {t : TypeId} {ks : List Sh} {a : Option Addr} {len cap : Nat} {d : DataW H} {ps : List MemPlace} (dd : Nat) (hk : shK P dd t = some [.sl ks]) (h : DataW.Trod enc P W base spare held t (.slice a len cap) d ps) :
  okS W.heap dd (.sl ks) (.slice a len cap) := by
 obtain ⟨n, hn⟩ := h
 have := trod_sh (cs := [.slice a len cap]) dd hk rfl (by simpa [Value.cells] using hn)
 exact this.1
end
theorem okS_ints {hp : Heap} {d : Nat} {k : IntKind} {v : Value} (h : okS hp d (.sl [.i k]) v) : ∃ (A : Option Addr) (n c : Nat) (l : List Int), v = .slice A n c ∧ n ≤ c ∧ c ≤ maxLen ∧ l.length = n ∧ Rd hp A (l.map (Value.int k)) ∧ ∀ x ∈ l, inK k x := by
 cases d with
 | zero => exact h.elim
 | succ d =>
  obtain ⟨A, n, c, rfl, h1, h2, ll, h3, h4, h5⟩ := h
  have key : ∀ ll : List (List Value), (∀ x ∈ ll, all2 (okS hp d) [.i k] x) → ∃ l : List Int, l.length = ll.length ∧ ll.flatten = l.map (Value.int k) ∧ ∀ x ∈ l, inK k x := by
   intro ll
   induction ll with
   | nil => intro _; exact ⟨[], rfl, rfl, by simp⟩
   | cons x r ih =>
    intro hx
    obtain ⟨l, e1, e2, e3⟩ := ih fun y hy => hx y (List.mem_cons_of_mem _ hy)
    obtain ⟨v, rr, rfl, hv, hn⟩ := all2_cons (hx x List.mem_cons_self)
    obtain rfl := all2_nil hn
    cases d with
    | zero => exact hv.elim
    | succ d =>
     obtain ⟨z, rfl, hz⟩ := hv
     exact ⟨z :: l, by simp [e1], by simp [e2], by intro y hy; rcases List.mem_cons.1 hy with rfl | hy; exact hz; exact e3 y hy⟩
  obtain ⟨l, e1, e2, e3⟩ := key ll h5
  exact ⟨A, n, c, l, rfl, h1, h2, by omega, by rw [← e2]; exact h4, e3⟩
theorem okS_bytes {hp : Heap} {d : Nat} {v : Value} (h : okS hp d (.sl [.i .u8]) v) : ∃ (A : Option Addr) (n c : Nat) (l : List UInt8), v = .slice A n c ∧ n ≤ c ∧ c ≤ maxLen ∧ l.length = n ∧ Rd hp A (l.map byteV) := by
 obtain ⟨A, n, c, l, rfl, h1, h2, h3, h4, h5⟩ := okS_ints h
 refine ⟨A, n, c, l.map fun z => UInt8.ofNat z.toNat, rfl, h1, h2, by simpa using h3, ?_⟩
 have e : (l.map fun z => UInt8.ofNat z.toNat).map byteV = l.map (Value.int .u8) := by
  rw [List.map_map]
  refine List.map_congr_left fun z hz => ?_
  have hb := h5 z hz
  simp only [inK] at hb
  simp only [Function.comp, byteV]
  congr 1
  have : (UInt8.ofNat z.toNat).toNat = z.toNat := by simp; omega
  rw [this]; omega
 rw [e]; exact h4
structure BR where
  a : Option Addr
  n : Nat
  c : Nat
  l : List UInt8
@[reducible] def BR.v (b : BR) : Value := .slice b.a b.n b.c
structure BR.ok (hp : Heap) (b : BR) : Prop where
  rd : Rd hp b.a (b.l.map byteV)
  len : b.l.length = b.n
  le : b.n ≤ b.c
  cap : b.c ≤ maxLen
theorem BR.ok.ext {h0 hp : Heap} {b : BR} (h : b.ok h0) (hx : Ext h0 hp) : b.ok hp := ⟨h.rd.ext hx, h.len, h.le, h.cap⟩
theorem okS_rows {hp : Heap} {d : Nat} {v : Value} (h : okS hp d (.sl [.sl [.i .u8]]) v) : ∃ (A : Option Addr) (n c : Nat) (l : List BR), v = .slice A n c ∧ n ≤ c ∧ c ≤ maxLen ∧ l.length = n ∧ Rd hp A (l.map BR.v) ∧ ∀ x ∈ l, x.ok hp := by
 cases d with
 | zero => exact h.elim
 | succ d =>
  obtain ⟨A, n, c, rfl, h1, h2, ll, h3, h4, h5⟩ := h
  have key : ∀ ll : List (List Value), (∀ x ∈ ll, all2 (okS hp d) [.sl [.i .u8]] x) → ∃ l : List BR, l.length = ll.length ∧ ll.flatten = l.map BR.v ∧ ∀ x ∈ l, x.ok hp := by
   intro ll
   induction ll with
   | nil => intro _; exact ⟨[], rfl, rfl, by simp⟩
   | cons x r ih =>
    intro hx
    obtain ⟨l, e1, e2, e3⟩ := ih fun y hy => hx y (List.mem_cons_of_mem _ hy)
    obtain ⟨v, rr, rfl, hv, hn⟩ := all2_cons (hx x List.mem_cons_self)
    obtain rfl := all2_nil hn
    obtain ⟨A, n, c, bl, rfl, g1, g2, g3, g4⟩ := okS_bytes hv
    refine ⟨⟨A, n, c, bl⟩ :: l, by simp [e1], by simp [e2], ?_⟩
    intro y hy
    rcases List.mem_cons.1 hy with rfl | hy
    ·exact ⟨g4, g3, g1, g2⟩
    ·exact e3 y hy
  obtain ⟨l, e1, e2, e3⟩ := key ll h5
  exact ⟨A, n, c, l, rfl, h1, h2, by omega, by rw [← e2]; exact h4, e3⟩
end Go.Bn
end

section
set_option linter.unusedSimpArgs false
set_option linter.unusedVariables false
namespace Go.Bn
open Go
def fitsV : Sh → Value → Bool
  | .i k, .int k' _ => decide (k = k')
  | .b, .bool _ => true
  | .str, .string _ => true
  | _, _ => false
def fitsL : List Sh → List Value → Bool
  | [], [] => true
  | k :: ks, v :: vs => fitsV k v && fitsL ks vs
  | _, _ => false
def eqv : Value → Value → Bool
  | .int _ a, .int _ b => a == b
  | .bool a, .bool b => a == b
  | .string a, .string b => a.toList == b.toList
  | _, _ => false
def eqL : List Value → List Value → Bool
  | [], [] => true
  | a :: l, b :: m => eqv a b && eqL l m
  | _, _ => false
def isSome? {α : Type} : Option α → Bool
  | some _ => true
  | none => false
def eqKF (P : Program) (rec : TypeId → Option (List Sh)) : Nat → List Field → Option (List Sh)
  | _, [] => some []
  | o, f :: r => match Nat.beq f.offset o && (f.name != "_"), rec f.type with
    | true, some ks => match (match single P f.type with | true => Nat.beq ks.length 1 | false => (match aggN P f.type with | some n => Nat.beq n ks.length | none => false)), eqKF P rec (o + ks.length) r with
      | true, some rest => some (ks ++ rest)
      | _, _ => none
    | _, _ => none
def eqK (P : Program) : Nat → TypeId → Option (List Sh)
  | 0, _ => none
  | d + 1, t => match P.underlying t with
    | some (.int k) => some [.i k]
    | some .bool => some [.b]
    | some .string => some [.str]
    | some (.struct fs) => match P.stoodInHeld t with
      | true => none
      | false => eqKF P (eqK P d) 0 fs.toList
    | _ => none
theorem fitsL_split : ∀ {ks ks' : List Sh} {l : List Value}, fitsL (ks ++ ks') l = true → fitsL ks (l.take ks.length) = true ∧ fitsL ks' (l.drop ks.length) = true
 | [], ks', l, h => ⟨by simp [fitsL], by simpa using h⟩
 | k :: ks, ks', [], h => by simp [fitsL] at h
 | k :: ks, ks', v :: l, h => by
  simp only [List.cons_append, fitsL, Bool.and_eq_true] at h
  obtain ⟨h1, h2⟩ := fitsL_split h.2
  simp [fitsL, h.1, h1, h2]
theorem fitsL_len : ∀ {ks : List Sh} {l : List Value}, fitsL ks l = true → l.length = ks.length
 | [], [], _ => rfl
 | [], _ :: _, h => by simp [fitsL] at h
 | _ :: _, [], h => by simp [fitsL] at h
 | _ :: ks, _ :: l, h => by
  simp only [fitsL, Bool.and_eq_true] at h
  simp [fitsL_len h.2]
theorem eqL_split : ∀ (n : Nat) {l m : List Value}, l.length = m.length → eqL l m = (eqL (l.take n) (m.take n) && eqL (l.drop n) (m.drop n))
 | 0, l, m, _ => by simp [eqL]
 | n + 1, [], [], _ => by simp [eqL]
 | n + 1, [], _ :: _, h => by simp at h
 | n + 1, _ :: _, [], h => by simp at h
 | n + 1, a :: l, b :: m, h => by
  simp only [List.take_succ_cons, List.drop_succ_cons, eqL]
  rw [eqL_split n (by simpa using h), Bool.and_assoc]
theorem part_one {P : Program} {t : TypeId} {xs : List Value} {o : Nat} {v : Value} {r : List Value} (h : single P t = true) (hx : xs.drop o = v :: r) (w : World) : (part t xs.toArray o).run P w = .ok v w := by
 have e : xs[o]? = some v := by
  have := congrArg (·[0]?) hx
  simpa using this
 simp [part, run_isAgg_single h, e]
theorem part_agg {P : Program} {t : TypeId} {xs : List Value} {o n : Nat} (h : aggN P t = some n) (w : World) : (part t xs.toArray o).run P w = .ok (.agg ((xs.drop o).take n).toArray) w := by
 have e : xs.toArray.extract o (o + n) = ((xs.drop o).take n).toArray := by
  apply Array.ext'
  simp [List.take_drop]
 simp [part, run_isAgg_agg h, run_sizeOf_agg h, e]
theorem run_eq_flat {P : Program} : ∀ (dd d : Nat) {t : TypeId} {ks : List Sh}, eqK P dd t = some ks → dd ≤ d →
  (∀ (x y : Value) (w : World), single P t = true → fitsL ks [x] = true → fitsL ks [y] = true → (Op.equalIn d t x y).run P w = .ok (eqv x y) w) ∧
  (∀ (xs ys : List Value) (w : World), isSome? (aggN P t) = true → fitsL ks xs = true → fitsL ks ys = true → (Op.equalIn d t (.agg xs.toArray) (.agg ys.toArray)).run P w = .ok (eqL xs ys) w)
 | 0, _, _, _, h, _ => by simp [eqK] at h
 | dd + 1, 0, _, _, _, h => by omega
 | dd + 1, d + 1, t, ks, h, hd => by
  unfold eqK at h
  split at h
  ·rename_i k hu
   cases h
   refine ⟨fun x y w _ hx hy => ?_, fun xs ys w ha => ?_⟩
   ·cases x <;> simp [fitsL, fitsV] at hx
    cases y <;> simp [fitsL, fitsV] at hy
    subst hx hy
    rw [run_equalIn_int w d t _ _ _ _ hu]; rfl
   ·rw [aggN, hu] at ha; cases ha
  ·rename_i hu
   cases h
   refine ⟨fun x y w _ hx hy => ?_, fun xs ys w ha => ?_⟩
   ·cases x <;> simp [fitsL, fitsV] at hx
    cases y <;> simp [fitsL, fitsV] at hy
    rw [run_equalIn_bool' w d t _ _ hu]; rfl
   ·rw [aggN, hu] at ha; cases ha
  ·rename_i hu
   cases h
   refine ⟨fun x y w _ hx hy => ?_, fun xs ys w ha => ?_⟩
   ·cases x <;> simp [fitsL, fitsV] at hx
    cases y <;> simp [fitsL, fitsV] at hy
    rw [run_equalIn_string w d t _ _ hu]; rfl
   ·rw [aggN, hu] at ha; cases ha
  ·rename_i fs hu
   split at h
   ·cases h
   ·rename_i hst
    have hfo : P.fieldsOf t = fs := by simp [Program.fieldsOf, hu]
    have hu' : P.underlying t = some (.struct (P.fieldsOf t)) := by rw [hfo]; exact hu
    refine ⟨fun x y w hs => ?_, fun xs ys w _ hx hy => ?_⟩
    ·rw [single, hu] at hs; cases hs
    ·rw [run_equalIn_agg w d t _ _ hu' hst, hfo]
     have hlen : xs.length = ys.length := by rw [fitsL_len hx, fitsL_len hy]
     suffices key : ∀ (l : List Field) (o : Nat) (ks : List Sh), eqKF P (eqK P dd) o l = some ks → fitsL ks (xs.drop o) = true → fitsL ks (ys.drop o) = true → (Op.eqFields d xs.toArray ys.toArray l).run P w = .ok (eqL (xs.drop o) (ys.drop o)) w by
      have := key fs.toList 0 ks h (by simpa using hx) (by simpa using hy)
      simpa using this
     intro l
     induction l with
     | nil =>
      intro o ks h hx hy
      simp only [eqKF, Option.some.injEq] at h
      subst h
      have e1 := List.eq_nil_of_length_eq_zero (fitsL_len hx)
      have e2 := List.eq_nil_of_length_eq_zero (fitsL_len hy)
      rw [e1, e2]; simp [Op.eqFields, eqL]
     | cons f r ih =>
      intro o ks h hx hy
      simp only [eqKF] at h
      split at h
      ·rename_i k1 hon hk
       simp only [Bool.and_eq_true, bne_iff_ne] at hon
       have ho := Nat.eq_of_beq_eq_true hon.1
       split at h
       ·rename_i rest hc hr
        cases h
        obtain ⟨x1, x2⟩ := fitsL_split hx
        obtain ⟨y1, y2⟩ := fitsL_split hy
        rw [List.drop_drop] at x2 y2
        have ihh := ih (o + k1.length) rest hr x2 y2
        obtain ⟨g1, g2⟩ := run_eq_flat dd d hk (by omega)
        simp only [Op.eqFields, hon.2, ne_eq, not_false_eq_true, if_true, Sem.run_bind, ho]
        have hrec : ∃ a b, (part f.type xs.toArray o).run P w = .ok a w ∧ (part f.type ys.toArray o).run P w = .ok b w ∧ (Op.equalIn d f.type a b).run P w = .ok (eqL ((xs.drop o).take k1.length) ((ys.drop o).take k1.length)) w := by
         cases hsg : single P f.type with
         | true =>
          rw [hsg] at hc
          have h1 : k1.length = 1 := Nat.eq_of_beq_eq_true hc
          obtain ⟨x, rx, ex⟩ : ∃ x rx, xs.drop o = x :: rx := by
           cases he : xs.drop o with
           | nil => rw [he] at x1; have := fitsL_len x1; simp at this; omega
           | cons x rx => exact ⟨x, rx, rfl⟩
          obtain ⟨y, ry, ey⟩ : ∃ y ry, ys.drop o = y :: ry := by
           cases he : ys.drop o with
           | nil => rw [he] at y1; have := fitsL_len y1; simp at this; omega
           | cons y ry => exact ⟨y, ry, rfl⟩
          rw [ex, h1] at x1
          rw [ey, h1] at y1
          refine ⟨x, y, part_one hsg ex w, part_one hsg ey w, ?_⟩
          rw [ex, ey, h1, g1 x y w hsg (by simpa using x1) (by simpa using y1)]
          simp [eqL]
         | false =>
          rw [hsg] at hc
          cases hag : aggN P f.type with
          | none => rw [hag] at hc; simp at hc
          | some n =>
           rw [hag] at hc
           have hn : n = k1.length := Nat.eq_of_beq_eq_true hc
           subst hn
           exact ⟨_, _, part_agg hag w, part_agg hag w, g2 _ _ w (by rw [hag]; rfl) x1 y1⟩
        obtain ⟨a, b, ha, hb, hab⟩ := hrec
        rw [ha]
        simp only [Result.andThen_ok, hb, hab]
        rw [eqL_split k1.length (l := xs.drop o) (m := ys.drop o) (by rw [List.length_drop, List.length_drop, hlen]), List.drop_drop, List.drop_drop]
        cases eqL ((xs.drop o).take k1.length) ((ys.drop o).take k1.length) with
        | true => simpa using ihh
        | false => simp
       ·cases h
      ·cases h
  ·cases h
theorem eq_flat {P : Program} {t : TypeId} {ks : List Sh} {xs ys : List Value} (hk : eqK P 9 t = some ks) (ha : isSome? (aggN P t) = true) (hx : fitsL ks xs = true) (hy : fitsL ks ys = true) (w : World) :
  (binOp .eql t (.agg xs.toArray) (.agg ys.toArray)).run P w = .ok (.bool (eqL xs ys)) w := by
 rw [run_eql_struct, (run_eq_flat 9 10000 hk (by omega)).2 xs ys w ha hx hy]; rfl
theorem neq_flat {P : Program} {t : TypeId} {ks : List Sh} {xs ys : List Value} (hk : eqK P 9 t = some ks) (ha : isSome? (aggN P t) = true) (hx : fitsL ks xs = true) (hy : fitsL ks ys = true) (w : World) :
  (binOp .neq t (.agg xs.toArray) (.agg ys.toArray)).run P w = .ok (.bool (!eqL xs ys)) w := run_neq_of_eql (eq_flat hk ha hx hy w)
end Go.Bn
end
