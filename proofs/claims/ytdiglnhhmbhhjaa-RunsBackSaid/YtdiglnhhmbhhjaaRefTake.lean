/- The contracts of bindleref08.Begins and Take. -/
import Derived.Test.YtdiglnhhmbhhjaaCanonR
import Derived.Test.YtdiglnhhmbhhjaaPTakeS
import Derived.Test.YtdiglnhhmbhhjaaOps9
set_option linter.unusedVariables false
set_option linter.unusedSimpArgs false
set_option maxHeartbeats 4000000
set_option maxRecDepth 20000
namespace Go.Bn
open Go Proofs

/-- Do both begin alike, as far as both go? -/
def beginsB (a b : List Bool) : Bool := a.take b.length == b.take a.length
theorem b01_inj {x y : Bool} (h : (if x = true then (1 : UInt8) else 0) = if y = true then 1 else 0) : x = y := by
  cases x <;> cases y <;> first | rfl | (revert h; decide)
theorem begins_ref {n m c d : Nat} {A B : Option Addr} {a b : List Bool} {h0 : Heap} (hr : Rd h0 A ((b01 a).map byteV)) (hl : a.length = n) (hs : Rd h0 B ((b01 b).map byteV)) (hm : b.length = m) (hn : n ≤ 1099511627776) :
    Ret Try.prog 118 [.slice A n c, .slice B m d] h0 fun v h' => v = .bool (beginsB a b) ∧ h0 = h' := by
  refine ret_of_X Try.func118 rfl rfl fun w0 hw0 => ?_
  simp only [argE, Nat.zero_add, Nat.reduceAdd]
  refine X_seq ?_
  refine X_reg ?_
  refine XR_a (op_assign rfl) rfl rfl ?_
  refine XR_nil ?_
  refine X_seq ?_
  refine X_seq ?_
  refine X_reg ?_
  refine XR_a (op_assign rfl) rfl rfl ?_
  refine XR_nil ?_
  refine X_block ?_
  refine X_loop (fun i => n - i) (fun i => [(0, .slice A n c), (1, .slice B m d), (5, .int .i64 (i : Int))])
    (fun (i : Nat) hp => hp = h0 ∧ i ≤ n ∧ i ≤ m ∧ a.take i = b.take i)
    0 (.cons rfl (.cons rfl (.cons rfl (.nil _)))) ⟨rfl, by omega, by omega, by simp⟩ ?_
  rintro i hp ⟨rfl, hi, hi2, heq⟩
  refine X_seq ?_
  refine X_seq ?_
  refine X_reg ?_
  refine XR_a (op_move rfl) rfl rfl ?_
  refine XR_a (op_move rfl) rfl rfl ?_
  refine XR_a (op_len rfl rfl rfl) rfl rfl ?_
  refine XR_a (op_lss rfl rfl) rfl rfl ?_
  refine XR_a (op_move rfl) rfl rfl ?_
  refine XR_if 10 rfl (fun h => ?_) (fun h => ?_)
  · refine XR_a (op_move rfl) rfl rfl ?_
    refine XR_a (op_move rfl) rfl rfl ?_
    refine XR_a (op_len rfl rfl rfl) rfl rfl ?_
    refine XR_a (op_lss rfl rfl) rfl rfl ?_
    refine XR_a (op_pick_t rfl rfl) rfl rfl ?_
    refine XR_nil ?_
    refine X_if rfl (fun h => ?_) (fun h => ?_)
    · have hla : i < a.length := by omega
      have hlb : i < b.length := by omega
      obtain ⟨g, o, rfl, hc⟩ := hr.at_ (by rw [List.length_map, b01_length]; omega)
      obtain ⟨g2, o2, rfl, hc2⟩ := hs.at_ (by rw [List.length_map, b01_length]; omega)
      have hci := hc i (byteV (if a[i] = true then 1 else 0)) (by simp [b01, hla])
      have hci2 := hc2 i (byteV (if b[i] = true then 1 else 0)) (by simp [b01, hlb])
      refine X_skip ?_
      refine X_seq ?_
      refine X_block ?_
      refine X_seq ?_
      refine X_draw byKind (by kernel_rfl) (by kernel_rfl) ?_
      refine XR_a (op_move rfl) rfl rfl ?_
      refine XR_a (op_move rfl) rfl rfl ?_
      first | refine XR_a (op_index1 rfl rfl rfl (by omega)) rfl rfl ?_ | refine XR_a (op_index rfl rfl rfl (by omega)) rfl rfl ?_
      refine XR_a (op_ld (hci) rfl rfl rfl) rfl rfl ?_
      refine XR_a (op_move rfl) rfl rfl ?_
      refine XR_a (op_move rfl) rfl rfl ?_
      first | refine XR_a (op_index1 rfl rfl rfl (by omega)) rfl rfl ?_ | refine XR_a (op_index rfl rfl rfl (by omega)) rfl rfl ?_
      refine XR_a (op_ld (hci2) rfl rfl rfl) rfl rfl ?_
      refine XR_a (op_neq rfl rfl) rfl rfl ?_
      refine XR_nil ?_
      refine X_if rfl (fun h => ?_) (fun h => ?_)
      · refine X_seq ?_
        refine X_reg ?_
        refine XR_a (op_assign rfl) rfl rfl ?_
        refine XR_nil ?_
        refine X_ret (.cons (.tmp rfl) .nil) ?_
        refine ⟨congrArg Value.bool (Eq.symm ?_), rfl⟩
        unfold beginsB
        rw [beq_eq_false_iff_ne]
        intro hh
        have h1 := congrArg (fun l => l[i]?) hh
        simp only [List.getElem?_take, if_pos (show i < b.length by omega), if_pos (show i < a.length by omega), List.getElem?_eq_getElem hla, List.getElem?_eq_getElem hlb] at h1
        rw [Option.some.inj h1] at h
        exact h rfl
      · refine X_skip ?_
        refine X_blk ?_
        refine X_reg ?_
        refine XR_a (op_move rfl) rfl rfl ?_
        first | refine XR_a (op_addN (n := 1) rfl rfl (by simp only [inK]; omega)) rfl rfl ?_ | refine XR_a (op_addI rfl rfl (by simp only [inK]; omega)) rfl rfl ?_ | refine XR_a (op_add rfl rfl) rfl rfl ?_
        refine XR_a (op_assign rfl) rfl rfl ?_
        refine XR_nil ?_
        refine X_again (i + 1) (.cons rfl (.cons rfl (.cons rfl (.nil _)))) ⟨rfl, by omega, by omega, ?_⟩ (by omega)
        have h1 : a[i] = b[i] := by
          have h2 := Decidable.not_not.1 h
          refine b01_inj ?_
          have h3 : (if a[i] = true then (1 : UInt8) else 0).toNat = (if b[i] = true then (1 : UInt8) else 0).toNat := Int.ofNat.inj h2
          exact UInt8.toNat_inj.1 h3
        rw [List.take_succ_eq_append_getElem hla, List.take_succ_eq_append_getElem hlb, heq, h1]
    · refine X_exit rfl ?_
      refine X_seq ?_
      have hfin : beginsB a b = true := by
        unfold beginsB
        rw [beq_iff_eq]
        rcases Nat.le_total n m with h1 | h1
        · obtain rfl : i = n := by omega
          rw [List.take_of_length_le (by omega), hl, ← heq, List.take_of_length_le (by omega)]
        · obtain rfl : i = m := by omega
          rw [hm, List.take_of_length_le (l := b) (by omega), heq, List.take_of_length_le (by omega)]
      refine X_reg ?_
      refine XR_a (op_assign rfl) rfl rfl ?_
      refine XR_nil ?_
      refine X_ret (.cons (.tmp rfl) .nil) ?_
      exact ⟨by rw [hfin]; rfl, rfl⟩
  · refine XR_no rfl rfl ?_
    refine XR_no rfl rfl ?_
    refine XR_no rfl rfl ?_
    refine XR_no rfl rfl ?_
    refine XR_a (op_pick_f rfl rfl) rfl rfl ?_
    refine XR_nil ?_
    refine X_else rfl ?_
    refine X_exit rfl ?_
    refine X_seq ?_
    have hfin : beginsB a b = true := by
      unfold beginsB
      rw [beq_iff_eq]
      rcases Nat.le_total n m with h1 | h1
      · obtain rfl : i = n := by omega
        rw [List.take_of_length_le (by omega), hl, ← heq, List.take_of_length_le (by omega)]
      · obtain rfl : i = m := by omega
        rw [hm, List.take_of_length_le (l := b) (by omega), heq, List.take_of_length_le (by omega)]
    refine X_reg ?_
    refine XR_a (op_assign rfl) rfl rfl ?_
    refine XR_nil ?_
    refine X_ret (.cons (.tmp rfl) .nil) ?_
    exact ⟨by rw [hfin]; rfl, rfl⟩
theorem beg_hit {v n s : Nat} {bs : List Bool} (h : n ≤ bs.length) (hn : n ≤ 15) : beginsB (codeBits v n) bs = hitQ (valB (bs.take 15)) (s, turnV v n, n) := by
  unfold beginsB
  rw [codeBits_length, List.take_of_length_le (by rw [codeBits_length]; exact h), Bool.eq_iff_iff, beq_iff_eq, hitQ_iff]
  simp only
  rw [match_iff, bits_take15 bs hn h]
  exact eq_comm
theorem beg_begin {v n s : Nat} {bs : List Bool} (h : bs.length < n) (hn : n ≤ 15) : beginsB (codeBits v n) bs = beginQ bs.length (valB (bs.take 15)) (s, turnV v n, n) := by
  have hb := bits_take15 bs (n := bs.length) (by omega) (Nat.le_refl _)
  rw [List.take_of_length_le (Nat.le_refl _)] at hb
  unfold beginsB
  rw [codeBits_length, List.take_of_length_le (l := bs) (by omega), ← bits_turnV, bitsN_take _ _ _ (by omega), Bool.eq_iff_iff, beq_iff_eq, beginQ_iff]
  simp only
  constructor
  · intro e
    refine ⟨h, ?_⟩
    rw [← hb] at e
    have e2 : bitsN bs.length (turnV v n % 2 ^ bs.length) = bitsN bs.length (valB (bs.take 15) % 2 ^ bs.length) := by
      rw [bitsN_mod, bitsN_mod]
      have hl : (bitsN bs.length (valB (bs.take 15))).length = bs.length := bitsN_length _ _
      rwa [hl] at e
    exact bitsN_inj (n := bs.length) (Nat.mod_lt _ (Nat.pow_pos (by omega))) (Nat.mod_lt _ (Nat.pow_pos (by omega))) e2
  · rintro ⟨_, e⟩
    rw [← bitsN_mod, e, bitsN_mod, hb]

theorem take08_ref {n c d m c3 a : Nat} {A B A3 : Option Addr} {ls : List Nat} {rb : List Bool} {h0 : Heap} (hr : Rd h0 A (ls.map nV)) (hl : ls.length = n) (hs : Rd h0 B ((vals ls).map nV)) (hok : lensOK ls)
    (hrb : Rd h0 A3 ((b01 rb).map byteV)) (hlb : rb.length = m) (hm : m ≤ 1048576) (hmc : m ≤ c3) (ha : a ≤ m) :
    Ret Try.prog 83 [.slice A n c, .slice B n d, .slice A3 m c3, .int .i64 (a : Int)] h0
      fun v h' => v = retVal [.int .i64 ((takeS (qcodes ls) (rb.drop a)).1 : Nat), .int .i64 ((takeS (qcodes ls) (rb.drop a)).2.1 : Nat), .int .i64 ((takeS (qcodes ls) (rb.drop a)).2.2 : Nat)] ∧ Ext h0 h' := by
  have hQ := qcodes_ok hok
  have h320 := hok.2.1
  obtain ⟨bs, hbs⟩ : ∃ bs, rb.drop a = bs := ⟨_, rfl⟩
  have hbl : bs.length = m - a := by rw [← hbs, List.length_drop, hlb]
  have hsl : a < m → Rd h0 (cutA A3 a 1 c3) ((b01 bs).map byteV) := fun hlt => by
    have h1 := hrb.cut a 1 c3 (m - a) (fun e => by rw [List.length_map, b01_length, hlb]; omega)
    have e : (((b01 rb).map byteV).drop (a * 1)).take (m - a) = (b01 bs).map byteV := by
      rw [Nat.mul_one, ← hbs]
      unfold b01
      rw [← List.map_drop, ← List.map_drop, List.take_of_length_le (by rw [List.length_map, List.length_map, List.length_drop]; omega)]
    rwa [e] at h1
  have hTS : takeS (qcodes ls) bs = match (qcodes ls).find? (matchQ bs) with
    | some c => (c.1, c.2.2, 0)
    | none => if shortB (qcodes ls) bs.length (valB (bs.take 15)) = true then (0, 0, 2) else (0, 0, 13) := rfl
  rw [hbs]
  obtain ⟨T, hT⟩ : ∃ T, takeS (qcodes ls) bs = T := ⟨_, rfl⟩
  rw [hT] at hTS ⊢
  obtain ⟨x, hx⟩ : ∃ x, valB (bs.take 15) = x := ⟨_, rfl⟩
  have hmi : ∀ c, matchQ bs c = true ↔ c.2.2 ≤ bs.length ∧ hitQ x c = true := fun c => by rw [← hx]; exact matchQ_iff
  have hbh : ∀ {v n s : Nat}, n ≤ bs.length → n ≤ 15 → beginsB (codeBits v n) bs = hitQ x (s, turnV v n, n) := fun h hn => by rw [← hx]; exact beg_hit h hn
  have hbb : ∀ {v n s : Nat}, bs.length < n → n ≤ 15 → beginsB (codeBits v n) bs = beginQ bs.length x (s, turnV v n, n) := fun h hn => by rw [← hx]; exact beg_begin h hn
  rw [hx] at hTS
  refine ret_of_X Try.func83 rfl rfl fun w0 hw0 => ?_
  simp only [argE, Nat.zero_add, Nat.reduceAdd]
  refine X_seq ?_
  refine X_reg ?_
  refine XR_a (op_assign rfl) rfl rfl ?_
  refine XR_a (op_assign rfl) rfl rfl ?_
  refine XR_a (op_assign rfl) rfl rfl ?_
  refine XR_nil ?_
  refine X_seq ?_
  refine X_reg ?_
  refine XR_a (op_assign rfl) rfl rfl ?_
  refine XR_nil ?_
  refine X_seq ?_
  refine X_seq ?_
  refine X_reg ?_
  refine XR_a (op_move rfl) rfl rfl ?_
  refine XR_a (op_move rfl) rfl rfl ?_
  refine XR_a (op_len rfl rfl rfl) rfl rfl ?_
  refine XR_a (op_geq rfl rfl) rfl rfl ?_
  refine XR_nil ?_
  refine X_if rfl (fun h => ?_) (fun h => ?_)
  · refine X_reg ?_
    refine XR_a (op_assign rfl) rfl rfl ?_
    refine XR_nil ?_
    refine X_seq ?_
    refine X_seq ?_
    refine X_reg ?_
    refine XR_a (op_assign rfl) rfl rfl ?_
    refine XR_nil ?_
    refine X_block ?_
    obtain ⟨e0, he0⟩ : ∃ e0 : Nat, e0 = 2 := ⟨_, rfl⟩
    have heb : e0 = if bs.length = 0 then 2 else 13 := by rw [if_pos (by omega), he0]
    refine X_loop (fun s => n - s.1) (fun s => [(0, .slice A n c), (1, .slice B n d), (2, .slice A3 m c3), (3, .int .i64 (a : Nat)), (11, .int .i64 (s.2 : Nat)), (12, .int .i64 (s.1 : Nat))])
      (fun (s : Nat × Nat) hp => Ext h0 hp ∧ s.1 ≤ n ∧ (codesTo ls s.1).find? (matchQ bs) = none ∧ s.2 = if bs.length = 0 ∨ shortB (codesTo ls s.1) bs.length x = true then 2 else 13)
      (0, e0) (.cons rfl (.cons rfl (.cons rfl (.cons rfl (.cons (by rw [he0]; rfl) (.cons rfl (.nil _))))))) ⟨Ext.refl _, Nat.zero_le _, rfl, by simp only; rw [heb]; simp [codesTo, shortB]⟩ ?_
    rintro ⟨s, e⟩ hp ⟨hxt, hi, hfn, hee⟩
    simp only at hxt hi hfn hee ⊢
    refine X_seq ?_
    refine X_seq ?_
    refine X_reg ?_
    refine XR_a (op_move rfl) rfl rfl ?_
    refine XR_a (op_move rfl) rfl rfl ?_
    refine XR_a (op_len rfl rfl rfl) rfl rfl ?_
    refine XR_a (op_lss rfl rfl) rfl rfl ?_
    refine XR_a (op_move rfl) rfl rfl ?_
    refine XR_if 22 rfl (fun h => ?_) (fun h => ?_)
    · refine XR_a (op_move rfl) rfl rfl ?_
      refine XR_a (op_move rfl) rfl rfl ?_
      refine XR_a (op_len rfl rfl rfl) rfl rfl ?_
      refine XR_a (op_lss rfl rfl) rfl rfl ?_
      refine XR_a (op_pick_t rfl rfl) rfl rfl ?_
      refine XR_nil ?_
      refine X_if rfl (fun h => ?_) (fun h => ?_)
      · refine X_skip ?_
        refine X_seq ?_
        refine X_block ?_
        refine X_seq ?_
        have hlt : s < ls.length := by omega
        obtain ⟨g, o, rfl, hc⟩ := hr.at_ (by rw [List.length_map]; omega)
        obtain ⟨g2, o2, rfl, hc2⟩ := hs.at_ (by rw [List.length_map, vals_length]; omega)
        have hci := fun {hp : Heap} (hx : Ext h0 hp) => cellH_ext (a := ⟨g, o + s, none⟩) hx (hc s (nV ls[s]) (by simp [hlt]))
        have hvi : (vals ls)[s]? = some (val ls s) := by simp [vals, hlt]
        have hcv := fun {hp : Heap} (hx : Ext h0 hp) => cellH_ext (a := ⟨g2, o2 + s, none⟩) hx (hc2 s _ (map_get_nV hvi))
        have h15 := hok.2.2.1 ls[s] (List.getElem_mem hlt)
        have hcs := codesTo_succ ls s
        have hco : codeOf ls s = if ls[s] = 0 then [] else [(s, turnV (val ls s) ls[s], ls[s])] := by unfold codeOf; rw [getD_get hlt]
        have hmemQ : ls[s] ≠ 0 → (s, turnV (val ls s) ls[s], ls[s]) ∈ qcodes ls := fun h0 => mem_qcodes.2 ⟨s, hlt, h0, rfl⟩
        have hvb : val ls s < 32769 := by
          by_cases h0 : ls[s] = 0
          · unfold val; rw [getD_get hlt, if_pos h0]; omega
          · have h1 := val_lt hok hlt h0
            have h2 := fst_bd hok h15
            omega
        obtain ⟨k, hk⟩ : ∃ k, ls[s] = k := ⟨_, rfl⟩
        obtain ⟨v, hv⟩ : ∃ v, val ls s = v := ⟨_, rfl⟩
        rw [hk] at hci h15 hco hmemQ
        rw [hv] at hcv hco hmemQ hvb
        have hskip : codeOf ls s = [] → (codesTo ls (s + 1)).find? (matchQ bs) = none ∧ e = if bs.length = 0 ∨ shortB (codesTo ls (s + 1)) bs.length x = true then 2 else 13 := fun h => by
          rw [hcs, h, List.append_nil]; exact ⟨hfn, hee⟩
        have hsb : ∀ b : Bool, beginQ bs.length x (s, turnV v k, k) = b → k ≠ 0 → shortB (codesTo ls (s + 1)) bs.length x = (shortB (codesTo ls s) bs.length x || b) := fun b hb h0 => by
          rw [hcs, hco, if_neg h0]
          unfold shortB
          rw [List.any_append]
          simp [hb]
        have hfm : matchQ bs (s, turnV v k, k) = false → k ≠ 0 → (codesTo ls (s + 1)).find? (matchQ bs) = none := fun hm h0 => by
          rw [hcs, hco, if_neg h0, List.find?_append, hfn]; simp [hm]
        refine X_draw (butAt [(8, .grow)]) (by kernel_rfl) (by kernel_rfl) ?_
        refine XR_a (op_move rfl) rfl rfl ?_
        refine XR_a (op_move rfl) rfl rfl ?_
        first | refine XR_a (op_index1 rfl rfl rfl (by omega)) rfl rfl ?_ | refine XR_a (op_index rfl rfl rfl (by omega)) rfl rfl ?_
        refine XR_a (op_ld (hcv hxt) rfl rfl rfl) rfl rfl ?_
        refine XR_a (op_move rfl) rfl rfl ?_
        refine XR_a (op_move rfl) rfl rfl ?_
        first | refine XR_a (op_index1 rfl rfl rfl (by omega)) rfl rfl ?_ | refine XR_a (op_index rfl rfl rfl (by omega)) rfl rfl ?_
        refine XR_a (op_ld (hci hxt) rfl rfl rfl) rfl rfl ?_
        refine XR_ga (opl_call (bits08_ref (z := v) (n := k) (by omega) (by omega)) rfl (by kernel_rfl)) rfl rfl rfl (fun _ _ h => h.low) ?_
        rintro v2 hp2 st2
        obtain ⟨A2, n2, c2, rfl, hlen2, _, _, hrd2⟩ := st2.row 0 rfl
        rw [List.length_map, b01_length, codeBits_length] at hlen2
        replace hxt := hxt.trans st2.low
        refine XR_a (op_assign rfl) rfl rfl ?_
        refine XR_nil ?_
        refine X_seq ?_
        refine X_seq ?_
        refine X_reg ?_
        refine XR_a (op_move rfl) rfl rfl ?_
        refine XR_a (op_move rfl) rfl rfl ?_
        first | refine XR_a (op_index1 rfl rfl rfl (by omega)) rfl rfl ?_ | refine XR_a (op_index rfl rfl rfl (by omega)) rfl rfl ?_
        refine XR_a (op_ld (hci hxt) rfl rfl rfl) rfl rfl ?_
        refine XR_a (op_eql rfl rfl) rfl rfl ?_
        refine XR_a (op_move rfl) rfl rfl ?_
        refine XR_if 44 rfl (fun h => ?_) (fun h => ?_)
        · refine XR_no rfl rfl ?_
          refine XR_no rfl rfl ?_
          refine XR_no rfl rfl ?_
          refine XR_no rfl rfl ?_
          refine XR_a (op_pick_t rfl rfl) rfl rfl ?_
          refine XR_a (op_move rfl) rfl rfl ?_
          refine XR_no rfl rfl ?_
          refine XR_no rfl rfl ?_
          refine XR_no rfl rfl ?_
          refine XR_no rfl rfl ?_
          refine XR_no rfl rfl ?_
          refine XR_no rfl rfl ?_
          refine XR_a (op_pick_t rfl rfl) rfl rfl ?_
          refine XR_nil ?_
          refine X_then rfl ?_
          refine X_exit rfl ?_
          refine X_reg ?_
          refine XR_a (op_move rfl) rfl rfl ?_
          first | refine XR_a (op_addN (n := 1) rfl rfl (by simp only [inK]; omega)) rfl rfl ?_ | refine XR_a (op_addI rfl rfl (by simp only [inK]; omega)) rfl rfl ?_ | refine XR_a (op_add rfl rfl) rfl rfl ?_
          refine XR_a (op_assign rfl) rfl rfl ?_
          refine XR_nil ?_
          obtain ⟨q1, q2⟩ := hskip (by rw [hco, if_pos (by omega)])
          exact X_again (s + 1, e) (.cons rfl (.cons rfl (.cons rfl (.cons rfl (.cons rfl (.cons rfl (.nil _))))))) ⟨hxt, by simp only; omega, q1, q2⟩ (by simp only; omega)
        · refine XR_a (op_move rfl) rfl rfl ?_
          refine XR_a (op_move rfl) rfl rfl ?_
          refine XR_a (op_len rfl rfl rfl) rfl rfl ?_
          refine XR_a (op_geq rfl rfl) rfl rfl ?_
          refine XR_a (op_pick_f rfl rfl) rfl rfl ?_
          refine XR_a (op_move rfl) rfl rfl ?_
          refine XR_if 50 rfl (fun h => ?_) (fun h => ?_)
          · refine XR_no rfl rfl ?_
            refine XR_no rfl rfl ?_
            refine XR_no rfl rfl ?_
            refine XR_no rfl rfl ?_
            refine XR_no rfl rfl ?_
            refine XR_no rfl rfl ?_
            refine XR_a (op_pick_t rfl rfl) rfl rfl ?_
            refine XR_nil ?_
            refine X_then rfl ?_
            refine X_exit rfl ?_
            refine X_reg ?_
            refine XR_a (op_move rfl) rfl rfl ?_
            first | refine XR_a (op_addN (n := 1) rfl rfl (by simp only [inK]; omega)) rfl rfl ?_ | refine XR_a (op_addI rfl rfl (by simp only [inK]; omega)) rfl rfl ?_ | refine XR_a (op_add rfl rfl) rfl rfl ?_
            refine XR_a (op_assign rfl) rfl rfl ?_
            refine XR_nil ?_
            have hb0 : bs.length = 0 := by omega
            refine X_again (s + 1, e) (.cons rfl (.cons rfl (.cons rfl (.cons rfl (.cons rfl (.cons rfl (.nil _))))))) ⟨hxt, by simp only; omega, hfm ?_ (by omega), ?_⟩ (by simp only; omega)
            · cases hh : matchQ bs (s, turnV v k, k) with
              | false => rfl
              | true => have := ((hmi _).1 hh).1; simp only at this; omega
            · simp only; rw [if_pos (.inl hb0)]; rw [if_pos (.inl hb0)] at hee; exact hee
          · refine XR_a (op_move rfl) rfl rfl ?_
            refine XR_a (op_move rfl) rfl rfl ?_
            refine XR_a (op_move rfl) rfl rfl ?_
            refine XR_a (op_slice_l (l := a) rfl rfl rfl (by omega) (by omega)) rfl rfl ?_
            refine XR_wa (opl_call (begins_ref (a := codeBits v k) (b := bs) hrd2 (by rw [codeBits_length]; omega) ((hsl (by omega)).ext hxt) (by omega) (by omega)) rfl (by kernel_rfl)) rfl rfl rfl ?_
            rintro _ _ ⟨rfl, rfl⟩
            first | refine XR_a (op_notd rfl) rfl rfl ?_ | refine XR_a (op_not rfl) rfl rfl ?_
            refine XR_a (op_pick_f rfl rfl) rfl rfl ?_
            refine XR_nil ?_
            refine X_cond rfl (fun h => ?_) (fun h => ?_)
            · refine X_exit rfl ?_
              refine X_reg ?_
              refine XR_a (op_move rfl) rfl rfl ?_
              first | refine XR_a (op_addN (n := 1) rfl rfl (by simp only [inK]; omega)) rfl rfl ?_ | refine XR_a (op_addI rfl rfl (by simp only [inK]; omega)) rfl rfl ?_ | refine XR_a (op_add rfl rfl) rfl rfl ?_
              refine XR_a (op_assign rfl) rfl rfl ?_
              refine XR_nil ?_
              have hbf : beginsB (codeBits v k) bs = false := by simpa using h
              have hk0 : k ≠ 0 := by omega
              refine X_again (s + 1, e) (.cons rfl (.cons rfl (.cons rfl (.cons rfl (.cons rfl (.cons rfl (.nil _))))))) ⟨hxt, by simp only; omega, hfm ?_ hk0, ?_⟩ (by simp only; omega)
              · cases hh : matchQ bs (s, turnV v k, k) with
                | false => rfl
                | true =>
                  obtain ⟨h1, h2⟩ := (hmi _).1 hh
                  rw [← hbh h1 h15, hbf] at h2; cases h2
              · have hbq : beginQ bs.length x (s, turnV v k, k) = false := by
                  cases hh : beginQ bs.length x (s, turnV v k, k) with
                  | false => rfl
                  | true =>
                    have h1 := (beginQ_iff.1 hh).1
                    rw [← hbb h1 h15, hbf] at hh; cases hh
                simp only
                rw [hsb false hbq hk0, Bool.or_false]; exact hee
            · refine X_skip ?_
              refine X_seq ?_
              refine X_seq ?_
              have hbt : beginsB (codeBits v k) bs = true := by simpa using h
              have hk0 : k ≠ 0 := by omega
              refine X_reg ?_
              refine XR_a (op_move rfl) rfl rfl ?_
              refine XR_a (op_move rfl) rfl rfl ?_
              first | refine XR_a (op_index1 rfl rfl rfl (by omega)) rfl rfl ?_ | refine XR_a (op_index rfl rfl rfl (by omega)) rfl rfl ?_
              refine XR_a (op_ld (hci hxt) rfl rfl rfl) rfl rfl ?_
              refine XR_a (op_move rfl) rfl rfl ?_
              refine XR_a (op_len rfl rfl rfl) rfl rfl ?_
              refine XR_a (op_move rfl) rfl rfl ?_
              first | refine XR_a (op_subN rfl rfl (by omega) (by simp only [inK]; omega)) rfl rfl ?_ | refine XR_a (op_subI rfl rfl (by simp only [inK]; omega)) rfl rfl ?_ | refine XR_a (op_sub rfl rfl) rfl rfl ?_
              refine XR_a (op_leq rfl rfl) rfl rfl ?_
              refine XR_nil ?_
              refine X_if rfl (fun h => ?_) (fun h => ?_)
              · refine X_seq ?_
                refine X_draw byKind (by kernel_rfl) (by kernel_rfl) ?_
                refine XR_a (op_move rfl) rfl rfl ?_
                refine XR_a (op_move rfl) rfl rfl ?_
                refine XR_a (op_move rfl) rfl rfl ?_
                first | refine XR_a (op_index1 rfl rfl rfl (by omega)) rfl rfl ?_ | refine XR_a (op_index rfl rfl rfl (by omega)) rfl rfl ?_
                refine XR_a (op_ld (hci hxt) rfl rfl rfl) rfl rfl ?_
                refine XR_a (op_assign rfl) rfl rfl ?_
                refine XR_a (op_assign rfl) rfl rfl ?_
                refine XR_a (op_assign rfl) rfl rfl ?_
                refine XR_nil ?_
                refine X_ret (.cons (.tmp rfl) (.cons (.tmp rfl) (.cons (.tmp rfl) .nil))) ?_
                have hkl : k ≤ bs.length := by omega
                have hhit : hitQ x (s, turnV v k, k) = true := by rw [← hbh hkl h15]; exact hbt
                rw [find_some_of (hmemQ hk0) ((hmi _).2 ⟨hkl, hhit⟩) fun d hd hh => hitQ_one hQ hd (hmemQ hk0) ((hmi d).1 hh).2 hhit] at hTS
                rw [hTS]
                exact ⟨rfl, hxt⟩
              · refine X_skip ?_
                refine X_reg ?_
                refine XR_a (op_assign rfl) rfl rfl ?_
                refine XR_nil ?_
                refine X_blk ?_
                refine X_reg ?_
                refine XR_a (op_move rfl) rfl rfl ?_
                first | refine XR_a (op_addN (n := 1) rfl rfl (by simp only [inK]; omega)) rfl rfl ?_ | refine XR_a (op_addI rfl rfl (by simp only [inK]; omega)) rfl rfl ?_ | refine XR_a (op_add rfl rfl) rfl rfl ?_
                refine XR_a (op_assign rfl) rfl rfl ?_
                refine XR_nil ?_
                have hkl : bs.length < k := by omega
                have hbq : beginQ bs.length x (s, turnV v k, k) = true := by rw [← hbb hkl h15]; exact hbt
                refine X_again (s + 1, 2) (.cons rfl (.cons rfl (.cons rfl (.cons rfl (.cons rfl (.cons rfl (.nil _))))))) ⟨hxt, by simp only; omega, hfm ?_ hk0, ?_⟩ (by simp only; omega)
                · cases hh : matchQ bs (s, turnV v k, k) with
                  | false => rfl
                  | true => have := ((hmi _).1 hh).1; simp only at this; omega
                · simp only
                  rw [hsb true hbq hk0, Bool.or_true, if_pos (.inr rfl)]
      · refine X_exit rfl ?_
        refine X_seq ?_
        obtain rfl : s = n := by omega
        have hqe : codesTo ls s = qcodes ls := by unfold qcodes; rw [hl]
        rw [hqe] at hfn hee
        rw [hfn] at hTS
        simp only at hTS
        have hfin : T = (0, 0, e) := by
          rw [hTS, hee]
          by_cases h0 : bs.length = 0
          · have hsn := short_nil hok x
            rw [h0, if_pos hsn]; simp
          · by_cases h1 : shortB (qcodes ls) bs.length x = true
            · rw [if_pos h1, if_pos (.inr h1)]
            · rw [if_neg h1, if_neg (by rintro (h2 | h2); exact h0 h2; exact h1 h2)]
        refine X_reg ?_
        refine XR_a (op_move rfl) rfl rfl ?_
        refine XR_a (op_assign rfl) rfl rfl ?_
        refine XR_a (op_assign rfl) rfl rfl ?_
        refine XR_a (op_assign rfl) rfl rfl ?_
        refine XR_nil ?_
        refine X_ret (.cons (.tmp rfl) (.cons (.tmp rfl) (.cons (.tmp rfl) .nil))) ?_
        rw [hfin]
        exact ⟨rfl, hxt⟩
    · refine XR_no rfl rfl ?_
      refine XR_no rfl rfl ?_
      refine XR_no rfl rfl ?_
      refine XR_no rfl rfl ?_
      refine XR_a (op_pick_f rfl rfl) rfl rfl ?_
      refine XR_nil ?_
      refine X_else rfl ?_
      refine X_exit rfl ?_
      refine X_seq ?_
      obtain rfl : s = n := by omega
      have hqe : codesTo ls s = qcodes ls := by unfold qcodes; rw [hl]
      rw [hqe] at hfn hee
      rw [hfn] at hTS
      simp only at hTS
      have hfin : T = (0, 0, e) := by
        rw [hTS, hee]
        by_cases h0 : bs.length = 0
        · have hsn := short_nil hok x
          rw [h0, if_pos hsn]; simp
        · by_cases h1 : shortB (qcodes ls) bs.length x = true
          · rw [if_pos h1, if_pos (.inr h1)]
          · rw [if_neg h1, if_neg (by rintro (h2 | h2); exact h0 h2; exact h1 h2)]
      refine X_reg ?_
      refine XR_a (op_move rfl) rfl rfl ?_
      refine XR_a (op_assign rfl) rfl rfl ?_
      refine XR_a (op_assign rfl) rfl rfl ?_
      refine XR_a (op_assign rfl) rfl rfl ?_
      refine XR_nil ?_
      refine X_ret (.cons (.tmp rfl) (.cons (.tmp rfl) (.cons (.tmp rfl) .nil))) ?_
      rw [hfin]
      exact ⟨rfl, hxt⟩
  · refine X_skip ?_
    refine X_seq ?_
    refine X_seq ?_
    refine X_reg ?_
    refine XR_a (op_assign rfl) rfl rfl ?_
    refine XR_nil ?_
    refine X_block ?_
    obtain ⟨e0, he0⟩ : ∃ e0 : Nat, e0 = 13 := ⟨_, rfl⟩
    have heb : e0 = if bs.length = 0 then 2 else 13 := by rw [if_neg (by omega), he0]
    refine X_loop (fun s => n - s.1) (fun s => [(0, .slice A n c), (1, .slice B n d), (2, .slice A3 m c3), (3, .int .i64 (a : Nat)), (11, .int .i64 (s.2 : Nat)), (12, .int .i64 (s.1 : Nat))])
      (fun (s : Nat × Nat) hp => Ext h0 hp ∧ s.1 ≤ n ∧ (codesTo ls s.1).find? (matchQ bs) = none ∧ s.2 = if bs.length = 0 ∨ shortB (codesTo ls s.1) bs.length x = true then 2 else 13)
      (0, e0) (.cons rfl (.cons rfl (.cons rfl (.cons rfl (.cons (by rw [he0]; rfl) (.cons rfl (.nil _))))))) ⟨Ext.refl _, Nat.zero_le _, rfl, by simp only; rw [heb]; simp [codesTo, shortB]⟩ ?_
    rintro ⟨s, e⟩ hp ⟨hxt, hi, hfn, hee⟩
    simp only at hxt hi hfn hee ⊢
    refine X_seq ?_
    refine X_seq ?_
    refine X_reg ?_
    refine XR_a (op_move rfl) rfl rfl ?_
    refine XR_a (op_move rfl) rfl rfl ?_
    refine XR_a (op_len rfl rfl rfl) rfl rfl ?_
    refine XR_a (op_lss rfl rfl) rfl rfl ?_
    refine XR_a (op_move rfl) rfl rfl ?_
    refine XR_if 22 rfl (fun h => ?_) (fun h => ?_)
    · refine XR_a (op_move rfl) rfl rfl ?_
      refine XR_a (op_move rfl) rfl rfl ?_
      refine XR_a (op_len rfl rfl rfl) rfl rfl ?_
      refine XR_a (op_lss rfl rfl) rfl rfl ?_
      refine XR_a (op_pick_t rfl rfl) rfl rfl ?_
      refine XR_nil ?_
      refine X_if rfl (fun h => ?_) (fun h => ?_)
      · refine X_skip ?_
        refine X_seq ?_
        refine X_block ?_
        refine X_seq ?_
        have hlt : s < ls.length := by omega
        obtain ⟨g, o, rfl, hc⟩ := hr.at_ (by rw [List.length_map]; omega)
        obtain ⟨g2, o2, rfl, hc2⟩ := hs.at_ (by rw [List.length_map, vals_length]; omega)
        have hci := fun {hp : Heap} (hx : Ext h0 hp) => cellH_ext (a := ⟨g, o + s, none⟩) hx (hc s (nV ls[s]) (by simp [hlt]))
        have hvi : (vals ls)[s]? = some (val ls s) := by simp [vals, hlt]
        have hcv := fun {hp : Heap} (hx : Ext h0 hp) => cellH_ext (a := ⟨g2, o2 + s, none⟩) hx (hc2 s _ (map_get_nV hvi))
        have h15 := hok.2.2.1 ls[s] (List.getElem_mem hlt)
        have hcs := codesTo_succ ls s
        have hco : codeOf ls s = if ls[s] = 0 then [] else [(s, turnV (val ls s) ls[s], ls[s])] := by unfold codeOf; rw [getD_get hlt]
        have hmemQ : ls[s] ≠ 0 → (s, turnV (val ls s) ls[s], ls[s]) ∈ qcodes ls := fun h0 => mem_qcodes.2 ⟨s, hlt, h0, rfl⟩
        have hvb : val ls s < 32769 := by
          by_cases h0 : ls[s] = 0
          · unfold val; rw [getD_get hlt, if_pos h0]; omega
          · have h1 := val_lt hok hlt h0
            have h2 := fst_bd hok h15
            omega
        obtain ⟨k, hk⟩ : ∃ k, ls[s] = k := ⟨_, rfl⟩
        obtain ⟨v, hv⟩ : ∃ v, val ls s = v := ⟨_, rfl⟩
        rw [hk] at hci h15 hco hmemQ
        rw [hv] at hcv hco hmemQ hvb
        have hskip : codeOf ls s = [] → (codesTo ls (s + 1)).find? (matchQ bs) = none ∧ e = if bs.length = 0 ∨ shortB (codesTo ls (s + 1)) bs.length x = true then 2 else 13 := fun h => by
          rw [hcs, h, List.append_nil]; exact ⟨hfn, hee⟩
        have hsb : ∀ b : Bool, beginQ bs.length x (s, turnV v k, k) = b → k ≠ 0 → shortB (codesTo ls (s + 1)) bs.length x = (shortB (codesTo ls s) bs.length x || b) := fun b hb h0 => by
          rw [hcs, hco, if_neg h0]
          unfold shortB
          rw [List.any_append]
          simp [hb]
        have hfm : matchQ bs (s, turnV v k, k) = false → k ≠ 0 → (codesTo ls (s + 1)).find? (matchQ bs) = none := fun hm h0 => by
          rw [hcs, hco, if_neg h0, List.find?_append, hfn]; simp [hm]
        refine X_draw (butAt [(8, .grow)]) (by kernel_rfl) (by kernel_rfl) ?_
        refine XR_a (op_move rfl) rfl rfl ?_
        refine XR_a (op_move rfl) rfl rfl ?_
        first | refine XR_a (op_index1 rfl rfl rfl (by omega)) rfl rfl ?_ | refine XR_a (op_index rfl rfl rfl (by omega)) rfl rfl ?_
        refine XR_a (op_ld (hcv hxt) rfl rfl rfl) rfl rfl ?_
        refine XR_a (op_move rfl) rfl rfl ?_
        refine XR_a (op_move rfl) rfl rfl ?_
        first | refine XR_a (op_index1 rfl rfl rfl (by omega)) rfl rfl ?_ | refine XR_a (op_index rfl rfl rfl (by omega)) rfl rfl ?_
        refine XR_a (op_ld (hci hxt) rfl rfl rfl) rfl rfl ?_
        refine XR_ga (opl_call (bits08_ref (z := v) (n := k) (by omega) (by omega)) rfl (by kernel_rfl)) rfl rfl rfl (fun _ _ h => h.low) ?_
        rintro v2 hp2 st2
        obtain ⟨A2, n2, c2, rfl, hlen2, _, _, hrd2⟩ := st2.row 0 rfl
        rw [List.length_map, b01_length, codeBits_length] at hlen2
        replace hxt := hxt.trans st2.low
        refine XR_a (op_assign rfl) rfl rfl ?_
        refine XR_nil ?_
        refine X_seq ?_
        refine X_seq ?_
        refine X_reg ?_
        refine XR_a (op_move rfl) rfl rfl ?_
        refine XR_a (op_move rfl) rfl rfl ?_
        first | refine XR_a (op_index1 rfl rfl rfl (by omega)) rfl rfl ?_ | refine XR_a (op_index rfl rfl rfl (by omega)) rfl rfl ?_
        refine XR_a (op_ld (hci hxt) rfl rfl rfl) rfl rfl ?_
        refine XR_a (op_eql rfl rfl) rfl rfl ?_
        refine XR_a (op_move rfl) rfl rfl ?_
        refine XR_if 44 rfl (fun h => ?_) (fun h => ?_)
        · refine XR_no rfl rfl ?_
          refine XR_no rfl rfl ?_
          refine XR_no rfl rfl ?_
          refine XR_no rfl rfl ?_
          refine XR_a (op_pick_t rfl rfl) rfl rfl ?_
          refine XR_a (op_move rfl) rfl rfl ?_
          refine XR_no rfl rfl ?_
          refine XR_no rfl rfl ?_
          refine XR_no rfl rfl ?_
          refine XR_no rfl rfl ?_
          refine XR_no rfl rfl ?_
          refine XR_no rfl rfl ?_
          refine XR_a (op_pick_t rfl rfl) rfl rfl ?_
          refine XR_nil ?_
          refine X_then rfl ?_
          refine X_exit rfl ?_
          refine X_reg ?_
          refine XR_a (op_move rfl) rfl rfl ?_
          first | refine XR_a (op_addN (n := 1) rfl rfl (by simp only [inK]; omega)) rfl rfl ?_ | refine XR_a (op_addI rfl rfl (by simp only [inK]; omega)) rfl rfl ?_ | refine XR_a (op_add rfl rfl) rfl rfl ?_
          refine XR_a (op_assign rfl) rfl rfl ?_
          refine XR_nil ?_
          obtain ⟨q1, q2⟩ := hskip (by rw [hco, if_pos (by omega)])
          exact X_again (s + 1, e) (.cons rfl (.cons rfl (.cons rfl (.cons rfl (.cons rfl (.cons rfl (.nil _))))))) ⟨hxt, by simp only; omega, q1, q2⟩ (by simp only; omega)
        · refine XR_a (op_move rfl) rfl rfl ?_
          refine XR_a (op_move rfl) rfl rfl ?_
          refine XR_a (op_len rfl rfl rfl) rfl rfl ?_
          refine XR_a (op_geq rfl rfl) rfl rfl ?_
          refine XR_a (op_pick_f rfl rfl) rfl rfl ?_
          refine XR_a (op_move rfl) rfl rfl ?_
          refine XR_if 50 rfl (fun h => ?_) (fun h => ?_)
          · refine XR_no rfl rfl ?_
            refine XR_no rfl rfl ?_
            refine XR_no rfl rfl ?_
            refine XR_no rfl rfl ?_
            refine XR_no rfl rfl ?_
            refine XR_no rfl rfl ?_
            refine XR_a (op_pick_t rfl rfl) rfl rfl ?_
            refine XR_nil ?_
            refine X_then rfl ?_
            refine X_exit rfl ?_
            refine X_reg ?_
            refine XR_a (op_move rfl) rfl rfl ?_
            first | refine XR_a (op_addN (n := 1) rfl rfl (by simp only [inK]; omega)) rfl rfl ?_ | refine XR_a (op_addI rfl rfl (by simp only [inK]; omega)) rfl rfl ?_ | refine XR_a (op_add rfl rfl) rfl rfl ?_
            refine XR_a (op_assign rfl) rfl rfl ?_
            refine XR_nil ?_
            have hb0 : bs.length = 0 := by omega
            refine X_again (s + 1, e) (.cons rfl (.cons rfl (.cons rfl (.cons rfl (.cons rfl (.cons rfl (.nil _))))))) ⟨hxt, by simp only; omega, hfm ?_ (by omega), ?_⟩ (by simp only; omega)
            · cases hh : matchQ bs (s, turnV v k, k) with
              | false => rfl
              | true => have := ((hmi _).1 hh).1; simp only at this; omega
            · simp only; rw [if_pos (.inl hb0)]; rw [if_pos (.inl hb0)] at hee; exact hee
          · refine XR_a (op_move rfl) rfl rfl ?_
            refine XR_a (op_move rfl) rfl rfl ?_
            refine XR_a (op_move rfl) rfl rfl ?_
            refine XR_a (op_slice_l (l := a) rfl rfl rfl (by omega) (by omega)) rfl rfl ?_
            refine XR_wa (opl_call (begins_ref (a := codeBits v k) (b := bs) hrd2 (by rw [codeBits_length]; omega) ((hsl (by omega)).ext hxt) (by omega) (by omega)) rfl (by kernel_rfl)) rfl rfl rfl ?_
            rintro _ _ ⟨rfl, rfl⟩
            first | refine XR_a (op_notd rfl) rfl rfl ?_ | refine XR_a (op_not rfl) rfl rfl ?_
            refine XR_a (op_pick_f rfl rfl) rfl rfl ?_
            refine XR_nil ?_
            refine X_cond rfl (fun h => ?_) (fun h => ?_)
            · refine X_exit rfl ?_
              refine X_reg ?_
              refine XR_a (op_move rfl) rfl rfl ?_
              first | refine XR_a (op_addN (n := 1) rfl rfl (by simp only [inK]; omega)) rfl rfl ?_ | refine XR_a (op_addI rfl rfl (by simp only [inK]; omega)) rfl rfl ?_ | refine XR_a (op_add rfl rfl) rfl rfl ?_
              refine XR_a (op_assign rfl) rfl rfl ?_
              refine XR_nil ?_
              have hbf : beginsB (codeBits v k) bs = false := by simpa using h
              have hk0 : k ≠ 0 := by omega
              refine X_again (s + 1, e) (.cons rfl (.cons rfl (.cons rfl (.cons rfl (.cons rfl (.cons rfl (.nil _))))))) ⟨hxt, by simp only; omega, hfm ?_ hk0, ?_⟩ (by simp only; omega)
              · cases hh : matchQ bs (s, turnV v k, k) with
                | false => rfl
                | true =>
                  obtain ⟨h1, h2⟩ := (hmi _).1 hh
                  rw [← hbh h1 h15, hbf] at h2; cases h2
              · have hbq : beginQ bs.length x (s, turnV v k, k) = false := by
                  cases hh : beginQ bs.length x (s, turnV v k, k) with
                  | false => rfl
                  | true =>
                    have h1 := (beginQ_iff.1 hh).1
                    rw [← hbb h1 h15, hbf] at hh; cases hh
                simp only
                rw [hsb false hbq hk0, Bool.or_false]; exact hee
            · refine X_skip ?_
              refine X_seq ?_
              refine X_seq ?_
              have hbt : beginsB (codeBits v k) bs = true := by simpa using h
              have hk0 : k ≠ 0 := by omega
              refine X_reg ?_
              refine XR_a (op_move rfl) rfl rfl ?_
              refine XR_a (op_move rfl) rfl rfl ?_
              first | refine XR_a (op_index1 rfl rfl rfl (by omega)) rfl rfl ?_ | refine XR_a (op_index rfl rfl rfl (by omega)) rfl rfl ?_
              refine XR_a (op_ld (hci hxt) rfl rfl rfl) rfl rfl ?_
              refine XR_a (op_move rfl) rfl rfl ?_
              refine XR_a (op_len rfl rfl rfl) rfl rfl ?_
              refine XR_a (op_move rfl) rfl rfl ?_
              first | refine XR_a (op_subN rfl rfl (by omega) (by simp only [inK]; omega)) rfl rfl ?_ | refine XR_a (op_subI rfl rfl (by simp only [inK]; omega)) rfl rfl ?_ | refine XR_a (op_sub rfl rfl) rfl rfl ?_
              refine XR_a (op_leq rfl rfl) rfl rfl ?_
              refine XR_nil ?_
              refine X_if rfl (fun h => ?_) (fun h => ?_)
              · refine X_seq ?_
                refine X_draw byKind (by kernel_rfl) (by kernel_rfl) ?_
                refine XR_a (op_move rfl) rfl rfl ?_
                refine XR_a (op_move rfl) rfl rfl ?_
                refine XR_a (op_move rfl) rfl rfl ?_
                first | refine XR_a (op_index1 rfl rfl rfl (by omega)) rfl rfl ?_ | refine XR_a (op_index rfl rfl rfl (by omega)) rfl rfl ?_
                refine XR_a (op_ld (hci hxt) rfl rfl rfl) rfl rfl ?_
                refine XR_a (op_assign rfl) rfl rfl ?_
                refine XR_a (op_assign rfl) rfl rfl ?_
                refine XR_a (op_assign rfl) rfl rfl ?_
                refine XR_nil ?_
                refine X_ret (.cons (.tmp rfl) (.cons (.tmp rfl) (.cons (.tmp rfl) .nil))) ?_
                have hkl : k ≤ bs.length := by omega
                have hhit : hitQ x (s, turnV v k, k) = true := by rw [← hbh hkl h15]; exact hbt
                rw [find_some_of (hmemQ hk0) ((hmi _).2 ⟨hkl, hhit⟩) fun d hd hh => hitQ_one hQ hd (hmemQ hk0) ((hmi d).1 hh).2 hhit] at hTS
                rw [hTS]
                exact ⟨rfl, hxt⟩
              · refine X_skip ?_
                refine X_reg ?_
                refine XR_a (op_assign rfl) rfl rfl ?_
                refine XR_nil ?_
                refine X_blk ?_
                refine X_reg ?_
                refine XR_a (op_move rfl) rfl rfl ?_
                first | refine XR_a (op_addN (n := 1) rfl rfl (by simp only [inK]; omega)) rfl rfl ?_ | refine XR_a (op_addI rfl rfl (by simp only [inK]; omega)) rfl rfl ?_ | refine XR_a (op_add rfl rfl) rfl rfl ?_
                refine XR_a (op_assign rfl) rfl rfl ?_
                refine XR_nil ?_
                have hkl : bs.length < k := by omega
                have hbq : beginQ bs.length x (s, turnV v k, k) = true := by rw [← hbb hkl h15]; exact hbt
                refine X_again (s + 1, 2) (.cons rfl (.cons rfl (.cons rfl (.cons rfl (.cons rfl (.cons rfl (.nil _))))))) ⟨hxt, by simp only; omega, hfm ?_ hk0, ?_⟩ (by simp only; omega)
                · cases hh : matchQ bs (s, turnV v k, k) with
                  | false => rfl
                  | true => have := ((hmi _).1 hh).1; simp only at this; omega
                · simp only
                  rw [hsb true hbq hk0, Bool.or_true, if_pos (.inr rfl)]
      · refine X_exit rfl ?_
        refine X_seq ?_
        obtain rfl : s = n := by omega
        have hqe : codesTo ls s = qcodes ls := by unfold qcodes; rw [hl]
        rw [hqe] at hfn hee
        rw [hfn] at hTS
        simp only at hTS
        have hfin : T = (0, 0, e) := by
          rw [hTS, hee]
          by_cases h0 : bs.length = 0
          · have hsn := short_nil hok x
            rw [h0, if_pos hsn]; simp
          · by_cases h1 : shortB (qcodes ls) bs.length x = true
            · rw [if_pos h1, if_pos (.inr h1)]
            · rw [if_neg h1, if_neg (by rintro (h2 | h2); exact h0 h2; exact h1 h2)]
        refine X_reg ?_
        refine XR_a (op_move rfl) rfl rfl ?_
        refine XR_a (op_assign rfl) rfl rfl ?_
        refine XR_a (op_assign rfl) rfl rfl ?_
        refine XR_a (op_assign rfl) rfl rfl ?_
        refine XR_nil ?_
        refine X_ret (.cons (.tmp rfl) (.cons (.tmp rfl) (.cons (.tmp rfl) .nil))) ?_
        rw [hfin]
        exact ⟨rfl, hxt⟩
    · refine XR_no rfl rfl ?_
      refine XR_no rfl rfl ?_
      refine XR_no rfl rfl ?_
      refine XR_no rfl rfl ?_
      refine XR_a (op_pick_f rfl rfl) rfl rfl ?_
      refine XR_nil ?_
      refine X_else rfl ?_
      refine X_exit rfl ?_
      refine X_seq ?_
      obtain rfl : s = n := by omega
      have hqe : codesTo ls s = qcodes ls := by unfold qcodes; rw [hl]
      rw [hqe] at hfn hee
      rw [hfn] at hTS
      simp only at hTS
      have hfin : T = (0, 0, e) := by
        rw [hTS, hee]
        by_cases h0 : bs.length = 0
        · have hsn := short_nil hok x
          rw [h0, if_pos hsn]; simp
        · by_cases h1 : shortB (qcodes ls) bs.length x = true
          · rw [if_pos h1, if_pos (.inr h1)]
          · rw [if_neg h1, if_neg (by rintro (h2 | h2); exact h0 h2; exact h1 h2)]
      refine X_reg ?_
      refine XR_a (op_move rfl) rfl rfl ?_
      refine XR_a (op_assign rfl) rfl rfl ?_
      refine XR_a (op_assign rfl) rfl rfl ?_
      refine XR_a (op_assign rfl) rfl rfl ?_
      refine XR_nil ?_
      refine X_ret (.cons (.tmp rfl) (.cons (.tmp rfl) (.cons (.tmp rfl) .nil))) ?_
      rw [hfin]
      exact ⟨rfl, hxt⟩
end Go.Bn
