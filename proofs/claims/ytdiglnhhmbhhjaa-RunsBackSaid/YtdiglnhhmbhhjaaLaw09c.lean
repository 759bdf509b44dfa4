/- The law RunsBack. -/
import Derived.Test.YtdiglnhhmbhhjaaRuns4
set_option linter.unusedVariables false
set_option linter.unusedSimpArgs false
set_option maxHeartbeats 4000000
set_option maxRecDepth 20000
namespace Go.Bn
open Go Proofs

theorem putR_len {ls : List Nat} (hb : ∀ x ∈ ls, x ≤ 15) (h1 : 1 ≤ ls.length) (h : ls.length ≤ 320) : (putR ls).length ≤ 10000 := by
  have h2 := flat_bd (partBits (plens ls)) 22 (partBits_len (plens_ok hb h1)) (partsL ls 0)
  have h3 := partsL_len ls
  have h4 := putHead_len ls 19
  unfold putR
  rw [List.length_append]
  omega

theorem numB_here (Q : List Bool) {k x : Nat} (z : List Bool) (hx : x < 2 ^ k) : numB (Q ++ (bitsN k x ++ z)) Q.length k = x := by
  unfold numB
  rw [List.drop_left, List.take_append_of_le_length (by rw [bitsN_length]; exact Nat.le_refl _), List.take_of_length_le (by rw [bitsN_length]; exact Nat.le_refl _), valB_bitsN, Nat.mod_eq_of_lt hx]
theorem rH_rW (s : Nat) : rH s - rL s < 2 ^ rW s := by
  unfold rH rL rW
  split
  · decide
  · split
    · decide
    · split
      · decide
      · decide
theorem goT_parts {ls lens : List Nat} (hb : ∀ x ∈ ls, x ≤ 15) (hok : lensOK lens) (h19 : lens.length = 19) (z : List Bool) : ∀ (f a : Nat) (Q : List Bool), a ≤ ls.length → ls.length < a + f → (∀ x ∈ partsL ls a, lens.getD x.1 0 ≠ 0) →
    goT lens (Q ++ ((partsL ls a).flatMap (partBits lens) ++ z)) ls.length f Q.length (ls.take a) = (ls, (Q ++ (partsL ls a).flatMap (partBits lens)).length, 0)
  | 0, a, Q, ha, hf, hp => by omega
  | f + 1, a, Q, ha, hf, hp => by
    rw [goT]
    have hlt := List.length_take (l := ls) (i := a)
    rw [Nat.min_eq_left ha] at hlt
    rw [hlt]
    by_cases h : a < ls.length
    · rw [if_neg (by omega)]
      have hfit := partAt_fits hb h
      have hm := partAt_many h
      have hrl := runAt_le ls a
      have hadd := partAt_add hb h
      rw [partsL_cons h] at hp ⊢
      obtain ⟨x, hx⟩ : ∃ x, partAt ls a = x := ⟨_, rfl⟩
      rw [hx] at hfit hm hadd hp ⊢
      have hx0 := hp x List.mem_cons_self
      have hxl : x.1 < lens.length := by omega
      have hge := getD_eq hxl
      rw [hge] at hx0
      have ih := goT_parts hb hok h19 z f (a + x.2) (Q ++ partBits lens x) (by omega) (by omega) (fun y hy => hp y (List.mem_cons_of_mem _ hy))
      obtain ⟨R, hR⟩ : ∃ R, (partsL ls (a + x.2)).flatMap (partBits lens) = R := ⟨_, rfl⟩
      rw [List.flatMap_cons, hR]
      rw [hR] at ih
      have hpb : partBits lens x = codeBits (val lens x.1) lens[x.1] ++ bitsN (rW x.1) (x.2 - rL x.1) := by unfold partBits; rw [hge]
      obtain ⟨S, hS⟩ : ∃ S, Q ++ (partBits lens x ++ R ++ z) = S := ⟨_, rfl⟩
      have hS1 : S = Q ++ (codeBits (val lens x.1) lens[x.1] ++ (bitsN (rW x.1) (x.2 - rL x.1) ++ (R ++ z))) := by rw [← hS, hpb]; simp
      have hS2 : S = (Q ++ codeBits (val lens x.1) lens[x.1]) ++ (bitsN (rW x.1) (x.2 - rL x.1) ++ (R ++ z)) := by rw [hS1]; simp
      have hS3 : Q ++ partBits lens x ++ (R ++ z) = S := by rw [← hS]; simp
      have htk : takeC lens (S.drop Q.length) = (x.1, lens[x.1], 0) := by rw [hS1, List.drop_left]; exact takeC_put hok hxl hx0 _
      have hrw := rH_rW x.1
      have hnum : numB S (Q.length + lens[x.1]) (rW x.1) = x.2 - rL x.1 := by
        have := numB_here (Q ++ codeBits (val lens x.1) lens[x.1]) (R ++ z) (show x.2 - rL x.1 < 2 ^ rW x.1 by omega)
        rw [← hS2, List.length_append, codeBits_length] at this
        exact this
      have hSl : Q.length + lens[x.1] + rW x.1 ≤ S.length := by rw [hS2]; simp only [List.length_append, codeBits_length, bitsN_length]; omega
      rw [hS3] at ih
      rw [hS, htk]
      simp only
      rw [hnum, if_neg (by omega), if_neg (by omega), if_neg (fun hh => by have := hfit.2.2.2 hh.1; omega), if_neg (by omega), show rL x.1 + (x.2 - rL x.1) = x.2 by omega, hadd]
      rw [show (Q ++ partBits lens x).length = Q.length + lens[x.1] + rW x.1 by rw [hpb]; simp only [List.length_append, codeBits_length, bitsN_length]; omega] at ih
      rw [ih]
      simp only [List.append_assoc]
    · rw [if_pos (by omega), partsL_end (by omega), List.take_of_length_le (by omega)]
      simp
theorem putHead_len_eq (l : List Nat) : ∀ i, i ≤ 19 → (putHead l i).length = 9 + 4 * i
  | 0, _ => by unfold putHead; simp [bitsN_length]
  | i + 1, h => by
    rw [putHead_succ (by omega), List.length_append, putHead_len_eq l i (by omega), bitsN_length]; omega
theorem putHead_pre (l : List Nat) : ∀ j i, i + j = 19 → ∃ r, putHead l 19 = putHead l i ++ r
  | 0, i, h => ⟨[], by rw [List.append_nil, show i = 19 by omega]⟩
  | j + 1, i, h => by
    obtain ⟨r, hr⟩ := putHead_pre l j (i + 1) (by omega)
    exact ⟨bitsN 4 ((plens l).getD i 0) ++ r, by rw [hr, putHead_succ (by omega), List.append_assoc]⟩
theorem takeR_put {ls : List Nat} (hb : ∀ x ∈ ls, x ≤ 15) (h1 : 1 ≤ ls.length) (h320 : ls.length ≤ 320) (z : List Bool) : takeR (putR ls ++ z) 0 (okR (putR ls ++ z) 0) = (ls, (putR ls).length, 0) := by
  have hok := plens_ok hb h1
  have h19 := plens_len ls
  have hl85 := putHead_len_eq ls 19 (by omega)
  obtain ⟨R, hR⟩ : ∃ R, (partsL ls 0).flatMap (partBits (plens ls)) = R := ⟨_, rfl⟩
  have hput : putR ls = putHead ls 19 ++ R := by unfold putR; rw [hR]
  obtain ⟨S, hS⟩ : ∃ S, putR ls ++ z = S := ⟨_, rfl⟩
  have hS1 : S = putHead ls 19 ++ (R ++ z) := by rw [← hS, hput, List.append_assoc]
  have hn : numB S 0 9 = ls.length := by
    have := numB_here [] (k := 9) (x := ls.length) (((plens ls).take 19).flatMap (bitsN 4) ++ (R ++ z)) (by omega)
    rw [hS1]
    unfold putHead
    rw [List.append_assoc]
    simpa using this
  have hlens : lens19 S (0 + 9) 19 = plens ls := by
    refine List.ext_getElem (by rw [lens19_len, h19]) fun k q1 q2 => ?_
    simp only [lens19, List.getElem_map, List.getElem_range]
    rw [if_pos (by omega)]
    obtain ⟨r, hr⟩ := putHead_pre ls (18 - k) (k + 1) (by omega)
    have hle := hok.2.2.1 _ (List.getElem_mem q2)
    have := numB_here (putHead ls k) (k := 4) (x := (plens ls)[k]) (r ++ (R ++ z)) (by omega)
    rw [putHead_len_eq ls k (by omega)] at this
    rw [hS1, hr, putHead_succ (by omega), getD_eq q2, List.append_assoc, List.append_assoc]
    rw [show 0 + 9 + 4 * k = 9 + 4 * k by omega]
    exact this
  have hokr : okR S 0 = true := by
    unfold okR
    rw [hlens]
    refine decide_eq_true ?_
    refine ⟨by rw [List.length_map, h19]; omega, ⟨by rw [List.length_map, h19]; omega, fun x hx => ?_⟩, by rw [cast_toNat]; exact hok.2.2.2⟩
    obtain ⟨y, hy, rfl⟩ := List.mem_map.1 hx
    have := hok.2.2.1 y hy; omega
  have hSl : 85 ≤ S.length := by rw [hS1, List.length_append]; omega
  rw [hS, hokr]
  have hH : headE S 0 true = 0 := by
    unfold headE
    rw [if_neg (by omega), hn, if_neg (by omega), if_neg (by omega), if_pos rfl]
  unfold takeR
  rw [if_neg (by omega), hlens, hn]
  have := goT_parts hb hok h19 z 321 0 (putHead ls 19) (by omega) (by omega) (fun x hx => plens_pos hb hx)
  rw [hR, ← hS1, List.take_zero, hl85, ← hput] at this
  exact this

theorem rjoin_spec {n c : Nat} {A : Option Addr} {ls : List Nat} {h0 : Heap} (hr : Rd h0 A ((partsL ls 0).flatMap pC2)) (hl : (partsL ls 0).length = n) (hb : ∀ x ∈ ls, x ≤ 15) (h320 : ls.length ≤ 320) :
    Ret Try.prog 52 [.slice A n c] h0 fun v h' => ∃ w, v = retVal [w, nV 0] ∧ St h0.size h0 h' [row 3 1 w (ls.map nV)] := by
  have hpm := partsL_mem hb
  have hnl := partsL_len ls
  refine ret_of_X Try.func52 rfl rfl fun w0 hw0 => ?_
  simp only [argE, Nat.zero_add, Nat.reduceAdd]
  refine X_seq ?_
  refine X_reg ?_
  refine XR_a (op_assign rfl) rfl rfl ?_
  refine XR_a (op_assign rfl) rfl rfl ?_
  refine XR_nil ?_
  refine X_seq ?_
  refine X_reg ?_
  refine XR_a (op_assign rfl) rfl rfl ?_
  refine XR_nil ?_
  refine X_seq ?_
  refine X_seq ?_
  refine X_reg ?_
  refine XR_a (op_move rfl) rfl rfl ?_
  refine XR_a (op_len rfl rfl rfl) rfl rfl ?_
  refine XR_a (op_move rfl) rfl rfl ?_
  refine XR_nil ?_
  refine X_block ?_
  have st := (St.start h0).nilrow 3 1
  refine X_loop (fun s => n - s.1) (fun s => [(4, s.2.2), (9, .slice A n c), (10, nV n), (11, nV s.1)])
    (fun (s : Nat × Nat × Value) hp => s.1 ≤ n ∧ s.2.1 ≤ ls.length ∧ partsL ls s.2.1 = (partsL ls 0).drop s.1 ∧ St h0.size h0 hp [row 3 1 s.2.2 ((ls.take s.2.1).map nV)])
    (0, 0, _) (.cons rfl (.cons rfl (.cons rfl (.cons rfl (.nil _))))) ⟨Nat.zero_le _, Nat.zero_le _, rfl, by rw [List.take_zero]; exact st⟩ ?_
  clear st
  rintro ⟨i, a, v⟩ hp ⟨hi, ha, hd, st⟩
  simp only at hi ha hd st ⊢
  refine X_seq ?_
  refine X_reg ?_
  refine XR_a (op_lss rfl rfl) rfl rfl ?_
  refine XR_nil ?_
  refine X_seq ?_
  refine X_if rfl (fun h => ?_) (fun h => ?_)
  · obtain ⟨g, o, rfl, hc⟩ := Rd.flat pC2 2 hr (fun _ => rfl) (by omega) (by omega)
    have hiP : i < (partsL ls 0).length := by omega
    rw [List.drop_eq_getElem_cons hiP] at hd
    have haL : a < ls.length := by
      rcases Nat.lt_or_ge a ls.length with h9 | h9
      · exact h9
      · rw [partsL_end h9] at hd; cases hd
    rw [partsL_cons haL] at hd
    obtain ⟨hx, hd⟩ := List.cons.inj hd
    have hm := partAt_many haL
    have hrl := runAt_le ls a
    have hfit := partAt_fits hb haL
    have hadd := partAt_add hb haL
    obtain ⟨x, hxe⟩ : ∃ x, partAt ls a = x := ⟨_, rfl⟩
    rw [hxe] at hx hd hm hfit hadd
    have hcx := fun q u (hu : (pC2 x)[q]? = some u) => cellH_ext (a := ⟨g, o + i * 2 + q, none⟩) st.low (hc i hiP q u (by rw [← hx]; exact hu))
    refine X_skip ?_
    refine X_seq ?_
    refine X_block ?_
    refine X_seq ?_
    refine X_reg ?_
    refine XR_a (op_index (i := i) rfl rfl rfl (by omega)) rfl rfl ?_
    refine XR_a (op_ldA (vs := pC2 x) hcx rfl rfl rfl rfl) rfl rfl ?_
    refine XR_wa (opl_new rfl) rfl rfl rfl ?_
    rintro _ hp ⟨p6, rfl, hnew⟩
    replace st := st.new hnew
    refine XR_wn (opl_store_whole (us := pC2 x) st 0 rfl rfl rfl rfl rfl (one_pC2 _) rfl) rfl rfl fun _ hp st => ?_
    simp only [List.set_cons_zero] at st
    refine XR_nil ?_
    refine X_seq ?_
    refine X_reg ?_
    refine XR_a (op_move rfl) rfl rfl ?_
    refine XR_a (op_ldA (vs := pC2 x) (st.cells 0 rfl) rfl rfl rfl rfl) rfl rfl ?_
    have hlt := List.length_take (l := ls) (i := a)
    refine XR_wa (opl_call (add_spec (s := x.1) (m := x.2) (l := ls.take a) st.tail.here (by omega) (by omega) (by omega) (by omega)) rfl (by kernel_rfl)) rfl rfl rfl ?_
    rintro _ hp7 h7
    rcases h7 with ⟨h16, hl0, rfl, _⟩ | ⟨_, w, rfl, st7⟩
    · exfalso
      have := hfit.2.2.2 h16; omega
    have st := st.tail.trans st7
    rw [hadd] at st
    obtain ⟨A9, n9, c9, rfl, hl9, _, _, _⟩ := st.row 0 rfl
    rw [List.length_map, List.length_take, Nat.mul_one] at hl9
    refine XR_a (op_move rfl) rfl rfl ?_
    refine XR_a (op_extract rfl rfl) rfl rfl ?_
    refine XR_a (op_extract rfl rfl) rfl rfl ?_
    refine XR_a (op_assign rfl) rfl rfl ?_
    refine XR_a (op_assign rfl) rfl rfl ?_
    refine XR_nil ?_
    refine X_seq ?_
    refine X_block ?_
    refine X_seq ?_
    refine X_reg ?_
    refine XR_a (op_move rfl) rfl rfl ?_
    refine XR_a (op_neq rfl rfl) rfl rfl ?_
    refine XR_a (op_assign rfl) rfl rfl ?_
    refine XR_nil ?_
    refine X_if rfl (fun h => ?_) (fun h => ?_)
    · exact absurd rfl h
    · refine X_seq ?_
      refine X_reg ?_
      refine XR_a (op_move rfl) rfl rfl ?_
      refine XR_a (op_len rfl rfl rfl) rfl rfl ?_
      refine XR_a (op_gtr rfl rfl) rfl rfl ?_
      refine XR_a (op_assign rfl) rfl rfl ?_
      refine XR_nil ?_
      refine X_if rfl (fun h => ?_) (fun h => ?_)
      · exact absurd h (by omega)
      · refine X_skip ?_
        refine X_blk ?_
        refine X_reg ?_
        refine XR_a (op_move rfl) rfl rfl ?_
        refine XR_a (op_assign rfl) rfl rfl ?_
        refine XR_nil ?_
        refine X_blk ?_
        refine X_reg ?_
        first | refine XR_a (op_addN (n := 1) rfl rfl (by simp only [inK]; omega)) rfl rfl ?_ | refine XR_a (op_addI rfl rfl (by simp only [inK]; omega)) rfl rfl ?_ | refine XR_a (op_add rfl rfl) rfl rfl ?_
        refine XR_a (op_move rfl) rfl rfl ?_
        refine XR_nil ?_
        exact X_again (i + 1, a + x.2, _) (.cons rfl (.cons rfl (.cons rfl (.cons rfl (.nil _))))) ⟨by simp only; omega, by simp only; omega, hd, st⟩ (by simp only; omega)
  · refine X_exit rfl ?_
    refine X_seq ?_
    refine X_reg ?_
    refine XR_a (op_move rfl) rfl rfl ?_
    refine XR_a (op_assign rfl) rfl rfl ?_
    refine XR_a (op_assign rfl) rfl rfl ?_
    refine XR_nil ?_
    refine X_ret (.cons (.tmp rfl) (.cons (.tmp rfl) .nil)) ?_
    rw [List.drop_of_length_le (by omega)] at hd
    have haL : ls.length ≤ a := by
      rcases Nat.lt_or_ge a ls.length with h9 | h9
      · rw [partsL_cons h9] at hd; cases hd
      · exact h9
    rw [List.take_of_length_le haL] at st
    exact ⟨_, rfl, st⟩

theorem runsBack_ret {n c u : Nat} {A : Option Addr} {li : List Int} {h0 : Heap} (hr : Rd h0 A (li.map iV)) (hl : li.length = n) (hn : n ≤ 17592186044416) (hu : u < 4294967296) :
    Ret Try.prog 14 [.slice A n c, .int .u32 (u : Int)] h0 fun v h' => v = .bool true ∧ Ext h0 h' := by
  refine ret_of_X Try.func14 rfl rfl fun w0 hw0 => ?_
  simp only [argE, Nat.zero_add, Nat.reduceAdd]
  refine X_seq ?_
  refine X_reg ?_
  refine XR_a (op_assign rfl) rfl rfl ?_
  refine XR_nil ?_
  refine X_seq ?_
  refine X_seq ?_
  refine X_reg ?_
  refine XR_a (op_move rfl) rfl rfl ?_
  refine XR_a (op_len rfl rfl rfl) rfl rfl ?_
  refine XR_a (op_gtr rfl rfl) rfl rfl ?_
  refine XR_nil ?_
  refine X_if rfl (fun h => ?_) (fun h => ?_)
  · refine X_seq ?_
    refine X_reg ?_
    refine XR_wa (opl_call (lives09 h0) rfl (by kernel_rfl)) rfl rfl rfl ?_
    rintro _ hp ⟨rfl, hx⟩
    refine XR_a (op_assign rfl) rfl rfl ?_
    refine XR_nil ?_
    refine X_ret (.cons (.tmp rfl) .nil) ?_
    exact ⟨rfl, hx⟩
  · refine X_skip ?_
    refine X_seq ?_
    refine X_reg ?_
    refine XR_wa (opl_new rfl) rfl rfl rfl ?_
    rintro _ hp ⟨q, rfl, hnew⟩
    have st := ((St.start h0).new hnew).wr0
    refine XR_nil ?_
    refine X_seq ?_
    refine X_seq ?_
    refine X_reg ?_
    refine XR_a (op_move rfl) rfl rfl ?_
    refine XR_wa (opl_call (rput_spec (bs := []) (F := []) st.here (fun h' hl' => hr.ext (st.low.trans hl')) hl (by omega) (by simp)) rfl (by kernel_rfl)) rfl rfl rfl ?_
    rintro _ hp2 ⟨rfl, st2⟩
    replace st := st.trans st2
    rw [List.nil_append] at st
    refine XR_a (op_neq rfl rfl) rfl rfl ?_
    refine XR_nil ?_
    refine X_if rfl (fun h => ?_) (fun h => ?_)
    · have hpl : putL li = [] := by unfold putL; rw [if_neg (by omega)]
      rw [hpl] at st
      refine X_seq ?_
      refine X_reg ?_
      refine XR_wa (opl_call (wlen_spec st.here (by simp)) rfl (by kernel_rfl)) rfl rfl rfl ?_
      rintro _ _ ⟨rfl, rfl⟩
      refine XR_a (op_eql rfl rfl) rfl rfl ?_
      refine XR_as (.bool true) (congrArg Value.bool (decide_eq_true rfl)) ?_
      refine XR_a (op_move rfl) rfl rfl ?_
      refine XR_wa (opl_call (lives09 _) rfl (by kernel_rfl)) rfl rfl rfl ?_
      rintro _ hp9 ⟨rfl, hx9⟩
      refine XR_a (op_pick_t rfl rfl) rfl rfl ?_
      refine XR_a (op_assign rfl) rfl rfl ?_
      refine XR_nil ?_
      refine X_ret (.cons (.tmp rfl) .nil) ?_
      exact ⟨rfl, Ext.trans st.low hx9⟩
    · have he : putE li = 0 := by omega
      have hpl : putL li = putR (li.map Int.toNat) := by unfold putL; rw [if_pos he]
      have hb0 : (1 ≤ n ∧ n ≤ 320) ∧ ∀ x ∈ li, 0 ≤ x ∧ x ≤ 15 := by
        have he2 := he
        unfold putE at he2
        split at he2
        · omega
        · split at he2
          · exact ⟨by omega, by assumption⟩
          · omega
      obtain ⟨⟨hn1, hn320⟩, hb⟩ := hb0
      rw [hpl] at st
      have hb2 : ∀ x ∈ li.map Int.toNat, x ≤ 15 := fun x hx => by obtain ⟨y, hy, rfl⟩ := List.mem_map.1 hx; have := hb y hy; omega
      have hcast : ((li.map Int.toNat).map fun n : Nat => (n : Int)) = li := toNat_map fun x hx => (hb x hx).1
      have hrN : Rd h0 A ((li.map Int.toNat).map nV) := by rw [nV_iV, hcast]; exact hr
      have hlN : (li.map Int.toNat).length = n := by rw [List.length_map]; exact hl
      obtain ⟨ls, hls⟩ : ∃ ls, li.map Int.toNat = ls := ⟨_, rfl⟩
      rw [hls] at st hb2 hrN hlN hcast
      have hpr := putR_len hb2 (by omega) (by omega)
      refine X_skip ?_
      refine X_seq ?_
      refine X_reg ?_
      refine XR_wa (opl_call (wlen_spec st.here (by omega)) rfl (by kernel_rfl)) rfl rfl rfl ?_
      rintro _ _ ⟨rfl, rfl⟩
      refine XR_a (op_assign rfl) rfl rfl ?_
      refine XR_nil ?_
      refine X_seq ?_
      refine X_reg ?_
      refine XR_a (op_move rfl) rfl rfl ?_
      refine XR_wa (opl_call (put_spec (n := u) (k := 32) st.here hu (by omega)) rfl (by kernel_rfl)) rfl rfl rfl ?_
      rintro _ hp6 ⟨rfl, st6⟩
      rw [show wd 32 32 = 32 from rfl] at st6
      replace st := st.trans st6
      have hpk := bitsB_pack (putR ls ++ bitsN 32 u)
      have hpkl := pack_length (putR ls ++ bitsN 32 u)
      have hbl : (putR ls ++ bitsN 32 u).length = (putR ls).length + 32 := by rw [List.length_append, bitsN_length]
      obtain ⟨z, hz⟩ : ∃ z, bitsB (pack (putR ls ++ bitsN 32 u)) = putR ls ++ (bitsN 32 u ++ z) := ⟨_, by rw [hpk, List.append_assoc]⟩
      obtain ⟨pk, hpke⟩ : ∃ pk, pack (putR ls ++ bitsN 32 u) = pk := ⟨_, rfl⟩
      refine XR_nil ?_
      refine X_seq ?_
      refine X_reg ?_
      refine XR_wa (opl_call (wbytes_spec st.here (by omega)) rfl (by kernel_rfl)) rfl rfl rfl ?_
      rintro v3 hp7 st7
      rw [hpke] at st7 hz hpkl
      obtain ⟨A3, n3, c3, rfl, hlen3, _, _, hrd3⟩ := st7.row 0 rfl
      rw [List.length_map, Nat.mul_one] at hlen3
      have st3 := st.ext st7.low
      refine XR_wa (opl_call (rnew_spec) rfl (by kernel_rfl)) rfl rfl rfl ?_
      rintro _ hp8 ⟨r, rfl, st8⟩
      refine XR_a (op_assign rfl) rfl rfl ?_
      refine XR_nil ?_
      refine X_seq ?_
      refine X_reg ?_
      refine XR_a (op_move rfl) rfl rfl ?_
      refine XR_wa (opl_call (rtake_runs st8.here (fun h' hl' => hrd3.ext (st8.low.trans hl')) hlen3 (by omega) (by omega)) rfl (by kernel_rfl)) rfl rfl rfl ?_
      rintro _ hp9 ⟨w, a', rfl, ha', hat, st9⟩
      rw [hz, takeR_put hb2 (by omega) (by omega)] at hat st9
      rw [hz, takeR_put hb2 (by omega) (by omega)]
      simp only at hat st9
      obtain rfl := hat trivial
      replace st9 := st8.trans st9
      obtain ⟨A9, n9, c9, rfl, hl9, _, _, _⟩ := st9.row 0 rfl
      rw [List.length_map, Nat.mul_one] at hl9
      refine XR_a (op_move rfl) rfl rfl ?_
      refine XR_a (op_extract rfl rfl) rfl rfl ?_
      refine XR_a (op_extract rfl rfl) rfl rfl ?_
      refine XR_a (op_assign rfl) rfl rfl ?_
      refine XR_a (op_assign rfl) rfl rfl ?_
      refine XR_nil ?_
      refine X_seq ?_
      refine X_reg ?_
      refine XR_a (op_move rfl) rfl rfl ?_
      refine XR_wa (opl_call (parts_spec (hrN.ext (st3.ext st9.low).low) hlN (by omega) hb2) rfl (by kernel_rfl)) rfl rfl rfl ?_
      rintro v10 hp10 st10
      obtain ⟨A10, n10, c10, rfl, hl10, _, _, hrd10⟩ := st10.row 0 rfl
      rw [flat_length _ 2 (fun _ => rfl)] at hl10
      refine XR_wa (opl_call (rjoin_spec (ls := ls) hrd10 (by omega) hb2 (by omega)) rfl (by kernel_rfl)) rfl rfl rfl ?_
      rintro _ hp11 ⟨w11, rfl, st11⟩
      obtain ⟨A11, n11, c11, rfl, hl11, _, _, _⟩ := st11.row 0 rfl
      rw [List.length_map, Nat.mul_one] at hl11
      replace st9 := (st9.ext st10.low).join st11
      simp only [List.cons_append, List.nil_append] at st9
      replace st9 := st9.re 3 [2, 0, 1] (by decide)
      simp only [List.map_cons, List.map_nil, getR] at st9
      have hnum : numB (bitsB pk) (putR ls).length 32 = u := by rw [hz]; exact numB_here _ _ (by omega)
      have hbp : (bitsB pk).length = 8 * n3 := by rw [bitsB_length]; omega
      have hle8 : (putR ls).length + 32 ≤ 8 * n3 := by rw [← hbp, hz]; simp only [List.length_append, bitsN_length]; omega
      refine XR_a (op_move rfl) rfl rfl ?_
      refine XR_a (op_extract rfl rfl) rfl rfl ?_
      refine XR_a (op_extract rfl rfl) rfl rfl ?_
      refine XR_a (op_assign rfl) rfl rfl ?_
      refine XR_a (op_assign rfl) rfl rfl ?_
      refine XR_nil ?_
      refine X_seq ?_
      refine X_reg ?_
      refine XR_a (op_move rfl) rfl rfl ?_
      refine XR_wa (opl_call (rtake_spec (k := 32) st9.here (hrd3.ext st9.low) hlen3 (by omega) (by omega)) rfl (by kernel_rfl)) rfl rfl rfl ?_
      rintro _ hp12 ⟨rfl, st12⟩
      rw [show wd 32 32 = 32 from rfl, if_pos (by omega)] at st12
      rw [show wd 32 32 = 32 from rfl, if_pos (by omega), hnum, decide_eq_true (show 32 ≤ 8 * n3 - (putR ls).length by omega)]
      replace st9 := st9.trans st12
      refine XR_a (op_move rfl) rfl rfl ?_
      refine XR_a (op_extract rfl rfl) rfl rfl ?_
      refine XR_a (op_extract rfl rfl) rfl rfl ?_
      refine XR_a (op_assign rfl) rfl rfl ?_
      refine XR_a (op_assign rfl) rfl rfl ?_
      refine XR_nil ?_
      refine X_seq ?_
      refine X_reg ?_
      refine XR_a (op_move rfl) rfl rfl ?_
      refine XR_a (op_eql rfl rfl) rfl rfl ?_
      refine XR_as (.bool true) (congrArg Value.bool (decide_eq_true rfl)) ?_
      refine XR_a (op_move rfl) rfl rfl ?_
      refine XR_a (op_move rfl) rfl rfl ?_
      refine XR_a (op_eql rfl rfl) rfl rfl ?_
      refine XR_as (.bool true) (congrArg Value.bool (decide_eq_true rfl)) ?_
      refine XR_a (op_pick_t rfl rfl) rfl rfl ?_
      refine XR_a (op_move rfl) rfl rfl ?_
      refine XR_a (op_move rfl) rfl rfl ?_
      refine XR_a (op_move rfl) rfl rfl ?_
      refine XR_wa (opl_call (ints_ref (la := li) (lb := li) (by rw [← hcast, ← nV_iV]; exact (st9.rdS 2 rfl).2) (by rw [← hl9, ← hcast, List.length_map]) (hr.ext (st3.ext st9.low).low) hl (by omega)) rfl (by kernel_rfl)) rfl rfl rfl ?_
      rintro _ hp13 ⟨rfl, rfl⟩
      rw [decide_eq_true rfl]
      refine XR_a (op_pick_t rfl rfl) rfl rfl ?_
      refine XR_a (op_move rfl) rfl rfl ?_
      refine XR_a (op_move rfl) rfl rfl ?_
      refine XR_a (op_move rfl) rfl rfl ?_
      refine XR_wa (opl_call (ints_ref (la := li) (lb := li) (by rw [← hcast, ← nV_iV]; exact (st9.rdS 1 rfl).2) (by rw [← hl11, ← hcast, List.length_map]) (hr.ext (st3.ext st9.low).low) hl (by omega)) rfl (by kernel_rfl)) rfl rfl rfl ?_
      rintro _ hp14 ⟨rfl, rfl⟩
      rw [decide_eq_true rfl]
      refine XR_a (op_pick_t rfl rfl) rfl rfl ?_
      refine XR_a (op_move rfl) rfl rfl ?_
      refine XR_a (op_move rfl) rfl rfl ?_
      refine XR_a (op_pick_t rfl rfl) rfl rfl ?_
      refine XR_a (op_move rfl) rfl rfl ?_
      refine XR_a (op_move rfl) rfl rfl ?_
      refine XR_a (op_move rfl) rfl rfl ?_
      refine XR_a (op_eql rfl rfl) rfl rfl ?_
      refine XR_as (.bool true) (congrArg Value.bool (decide_eq_true rfl)) ?_
      refine XR_a (op_pick_t rfl rfl) rfl rfl ?_
      refine XR_a (op_move rfl) rfl rfl ?_
      refine XR_a (op_move rfl) rfl rfl ?_
      refine XR_wa (opl_call (rat_spec (st9.cell 0 rfl rfl)) rfl (by kernel_rfl)) rfl rfl rfl ?_
      rintro _ _ ⟨rfl, rfl⟩
      refine XR_a (op_move rfl) rfl rfl ?_
      first | refine XR_a (op_addN (n := 32) rfl rfl (by simp only [inK]; omega)) rfl rfl ?_ | refine XR_a (op_addI rfl rfl (by simp only [inK]; omega)) rfl rfl ?_ | refine XR_a (op_add rfl rfl) rfl rfl ?_
      refine XR_a (op_eql rfl rfl) rfl rfl ?_
      refine XR_as (.bool true) (congrArg Value.bool (decide_eq_true (by omega))) ?_
      refine XR_a (op_pick_t rfl rfl) rfl rfl ?_
      refine XR_a (op_move rfl) rfl rfl ?_
      refine XR_wa (opl_call (lives09 _) rfl (by kernel_rfl)) rfl rfl rfl ?_
      rintro _ hp ⟨rfl, hx⟩
      refine XR_a (op_pick_t rfl rfl) rfl rfl ?_
      refine XR_a (op_assign rfl) rfl rfl ?_
      refine XR_nil ?_
      refine X_ret (.cons (.tmp rfl) .nil) ?_
      exact ⟨rfl, Ext.trans (st3.ext st9.low).low hx⟩
end Go.Bn
