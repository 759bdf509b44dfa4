/- The walks of script.Each, what it makes, and bindlelaw31.ScriptEach. -/
import Derived.Test.YtpkhilbgkkjebaaLaw31b
set_option linter.unusedVariables false
set_option linter.unusedSimpArgs false
set_option maxHeartbeats 4000000
set_option maxRecDepth 20000
namespace Go.Bn
open Go Proofs

section
variable {P : Program} {E : Env} {hp : Heap} {cl : Cls} {d : Option Tmp} {ty : TypeId} {pos : String} {af : Array Edge} {g : Option (Nat × Bool)} {x y : Operand} {t t' : TypeId}
def isFuncT (P : Program) (t : TypeId) : Bool := match P.underlying t with
  | some (.func ..) => true
  | _ => false
theorem op_func_eql {f : Fn} {b c : Array Value} (hx : ev E x = some (.func f b c)) (hy : ev E y = some .nilFunc) (ht : isFuncT P t = true) : Op1 cl P ⟨d, .binOp .eql t x y t', ty, pos, af, g⟩ E hp (.bool false) :=
  .of_pure fun n a ho w' => by
    unfold isFuncT at ht
    split at ht
    · rename_i a1 a2 a3 hu
      have he0 : ∀ dd, (Op.equalIn (dd + 1) t (.func f b c) .nilFunc).run P w' = .ok false w' := by
        intro dd
        simp [Op.equalIn, run_underlying hu]
      have hm : Op.maxDepth = 9999 + 1 := rfl
      have he := he0 9999
      rw [← hm] at he
      simp [execOp, ho.eval hx, ho.eval hy, eqGuard, binOp, Op.equal, he]
    · cases ht
/-- A function value is called; what it has and what it is given, known ahead. -/
theorem opl_callV2 {f : FuncId} {args : Array Operand} {ts : Array TypeId} {vs all : List Value} {caps : Array Value} {Φ : Value → Heap → Prop} (hx : ev E x = some (.func (.func f) #[] caps)) (hargs : evs E args.toList = some vs) (hall : vs ++ caps.toList = all) (h : Ret P f all hp Φ) (hc : callOk P f = true) :
    OpL P ⟨d, .call ⟨.value x, args, ts⟩, ty, pos, af, g⟩ E hp Φ := opl_callV hx (by rw [hall]; exact h) hargs hc
end
theorem pt_mem {B : Nat} {h0 hp : Heap} {L : List Res} (s : St B h0 hp L) {p : Nat} {T : TypeId} {cs : List Value} (h : pt p T cs ∈ L) : ∀ i u, cs[i]? = some u → cellH hp ⟨p, 0 + i, none⟩ = some u := by
  obtain ⟨j, hj, e⟩ := List.getElem_of_mem h
  exact s.cells j (by rw [List.getElem?_eq_getElem hj, e])
theorem subR.ok2 {hA h0 hp : Heap} {xs : List (Stp × Value × Value)} {L : List Res} (hs : subR hA xs L) (hx : Ext hA hp) {B : Nat} {R : List Res} (st : St B h0 hp R) (hL : ∀ r ∈ L, r ∈ R) : ∀ x ∈ xs, okX hp x := by
  intro x hxm
  obtain ⟨⟨A, n, c, e, hl, hr⟩, hk⟩ := hs x hxm
  obtain ⟨A2, n2, c2, e2, hl2, _, _, hr2⟩ := row_mem st (hL _ hk)
  exact ⟨⟨A, n, c, e, hl, hr.ext hx⟩, A2, n2, c2, e2, by simpa using hl2, hr2⟩

theorem seach_spec {m c : Nat} {A : Option Addr} {l : List UInt8} {h0 : Heap} (hr : Rd h0 A (l.map byteV)) (hl : l.length = m) (hm : m ≤ 1073741824) (hmc : m ≤ c) :
    Ret Try.prog 11 [.slice A m c] h0 fun v h' => ∃ p w xs L, v = .func (.func 29) #[] #[.pointer (some ⟨p, 0, none⟩)] ∧ xs.map (·.1) = (takeS31 l).1 ∧ subIn xs L ∧ St h0.size h0 h' (pt p 24 [w] :: row 37 7 w (xs.flatMap stX) :: L) := by
  refine ret_of_X Try.func11 rfl rfl fun w0 hw0 => ?_
  simp only [argE, Nat.zero_add, Nat.reduceAdd]
  have st := St.start h0
  refine X_seq ?_
  refine X_reg ?_
  refine XR_a (op_assign rfl) rfl rfl ?_
  refine XR_nil ?_
  refine X_seq ?_
  refine X_reg ?_
  refine XR_a (op_move rfl) rfl rfl ?_
  refine XR_wa (opl_call (stake_spec hr hl hm hmc) rfl (by kernel_rfl)) rfl rfl rfl ?_
  rintro _ hp ⟨w, xs, L, rfl, hxs, hsub, st1⟩
  replace st := st.join st1
  rw [List.append_nil] at st
  obtain ⟨A1, n1, c1, rfl, hl1, _⟩ := st.row 0 rfl
  refine XR_a (op_move rfl) rfl rfl ?_
  refine XR_a (op_extract rfl rfl) rfl rfl ?_
  refine XR_a (op_extract rfl rfl) rfl rfl ?_
  refine XR_wa (opl_new rfl) rfl rfl rfl ?_
  rintro _ hp ⟨p, rfl, hnew⟩
  replace st := st.new hnew
  refine XR_wn (opl_store_pt st 0 rfl rfl rfl rfl rfl (rfl)) rfl rfl fun _ hp st => ?_
  simp only [List.set_cons_zero, List.set_cons_succ] at st
  refine XR_a (op_assign rfl) rfl rfl ?_
  refine XR_nil ?_
  refine X_seq ?_
  refine X_reg ?_
  refine XR_a (op_mkFunc rfl) rfl rfl ?_
  refine XR_a (op_assign rfl) rfl rfl ?_
  refine XR_nil ?_
  refine X_ret (.cons (.tmp rfl) .nil) ?_
  exact ⟨p, _, xs, L, rfl, hxs, hsub, st⟩

theorem each1_yield {pf pi pm pl n2 c2 j cd ck : Nat} {A2 Ad Ak : Option Addr} {till : Int} {ys : List (Stp × Value × Value)} {o : Stp} {F : List Res} {hA h0 : Heap} (st : St hA.size h0 h0 (pt pf 4 [.bool true] :: pt pi 3 [nV j] :: pt pm 24 [.slice A2 n2 c2] :: pt pl 3 [.int .i64 till] :: F)) (hx : Ext hA h0)
    (hrow : row 37 7 (.slice A2 n2 c2) (ys.flatMap stX) ∈ F) (hys : subR hA ys F) (hj : j < ys.length) (ho : ys[j].1 = o) (ra : Rd h0 Ad (o.data.map byteV)) (rk : Rd h0 Ak (o.keep.map Value.bool)) (hkn : o.keep.length ≤ 1048576) (hn2 : ys.length ≤ 1048576) :
    Ret Try.prog 12 [nV j, .agg (stC o (.slice Ad o.data.length cd) (.slice Ak o.keep.length ck)).toArray, .pointer (some ⟨pf, 0, none⟩), .pointer (some ⟨pi, 0, none⟩), .pointer (some ⟨pm, 0, none⟩), .pointer (some ⟨pl, 0, none⟩)] h0
      fun v h' => v = .bool (decide (((j + 1 : Nat) : Int) ≠ till)) ∧ St hA.size h0 h' (pt pf 4 [.bool true] :: pt pi 3 [nV (j + 1)] :: pt pm 24 [.slice A2 n2 c2] :: pt pl 3 [.int .i64 till] :: F) := by
  have st00 := st
  obtain ⟨A2', n2', c2', he2, hl2, _, _, rd2⟩ := row_mem st (List.mem_cons_of_mem _ (List.mem_cons_of_mem _ (List.mem_cons_of_mem _ (List.mem_cons_of_mem _ hrow))))
  cases he2
  rw [flat_length _ 7 (fun _ => rfl)] at hl2
  obtain ⟨g2, o2, rfl, hc2⟩ := Rd.flat stX 7 rd2 (fun _ => rfl) (by omega) (by omega)
  have hok := hys.ok2 hx st (fun r hr => List.mem_cons_of_mem _ (List.mem_cons_of_mem _ (List.mem_cons_of_mem _ (List.mem_cons_of_mem _ hr))))
  obtain ⟨⟨Bd, md, dd, e3, hl3, r3⟩, ⟨Bk, mk, dk, e4, hl4, r4⟩⟩ := hok ys[j] (List.getElem_mem hj)
  have hcy := hc2 j hj
  subst hl3 hl4
  simp only [stX, e3, e4] at hcy
  have hcy := fun {hp : Heap} (hE : Ext h0 hp) q u hu => cellH_ext (a := ⟨g2, o2 + j * 7 + q, none⟩) hE (hcy q u hu)
  refine ret_of_X Try.func12 rfl rfl fun w0 hw0 => ?_
  simp only [argE, Nat.zero_add, Nat.reduceAdd]
  refine X_seq ?_
  refine X_reg ?_
  refine XR_wa (opl_bx (cs := stC o (.slice Ad o.data.length cd) (.slice Ak o.keep.length ck)) rfl rfl) rfl rfl rfl ?_
  rintro _ hp ⟨p, rfl, hnew⟩
  have hE : Ext h0 hp := (St.new (St.start h0) hnew).low
  replace st := st.new hnew
  refine XR_a (op_assign rfl) rfl rfl ?_
  refine XR_nil ?_
  refine X_seq ?_
  refine X_draw (butAt [(18, .grow)]) (by kernel_rfl) (by kernel_rfl) ?_
  refine XR_a (op_ld (st.cell 1 (i := 0) rfl rfl) rfl rfl rfl) rfl rfl ?_
  refine XR_a (op_move rfl) rfl rfl ?_
  refine XR_a (op_move rfl) rfl rfl ?_
  refine XR_a (op_ld (st.cell 2 (i := 0) rfl rfl) rfl rfl rfl) rfl rfl ?_
  refine XR_a (op_eql rfl rfl) rfl rfl ?_
  refine XR_as (.bool true) (congrArg Value.bool (decide_eq_true rfl)) ?_
  refine XR_a (op_pick_t rfl rfl) rfl rfl ?_
  refine XR_a (op_move rfl) rfl rfl ?_
  refine XR_a (op_ld (st.cell 2 (i := 0) rfl rfl) rfl rfl rfl) rfl rfl ?_
  refine XR_a (op_ld (st.cell 3 (i := 0) rfl rfl) rfl rfl rfl) rfl rfl ?_
  refine XR_a (op_len rfl rfl rfl) rfl rfl ?_
  refine XR_a (op_lss rfl rfl) rfl rfl ?_
  refine XR_as (.bool true) (congrArg Value.bool (decide_eq_true (by omega))) ?_
  refine XR_a (op_pick_t rfl rfl) rfl rfl ?_
  refine XR_a (op_move rfl) rfl rfl ?_
  refine XR_a (op_ldA (vs := stC o (.slice Ad o.data.length cd) (.slice Ak o.keep.length ck)) (st.cells 0 rfl) rfl rfl rfl rfl) rfl rfl ?_
  refine XR_a (op_ld (st.cell 3 (i := 0) rfl rfl) rfl rfl rfl) rfl rfl ?_
  refine XR_a (op_ld (st.cell 2 (i := 0) rfl rfl) rfl rfl rfl) rfl rfl ?_
  refine XR_a (op_index (i := j) rfl rfl rfl (by omega)) rfl rfl ?_
  refine XR_a (op_ldA (vs := stC ys[j].1 (.slice Bd ys[j].1.data.length dd) (.slice Bk ys[j].1.keep.length dk)) (hcy hE) rfl rfl rfl rfl) rfl rfl ?_
  refine XR_ga (opl_call (same31_ref (ra.ext hE) (rk.ext hE) (r3.ext hE) (r4.ext hE) hkn) rfl (by kernel_rfl)) rfl rfl rfl (fun _ _ h => h.2) ?_
  rintro _ hp ⟨rfl, hE5⟩
  rw [decide_eq_true ho.symm]
  replace st := st.ext hE5
  refine XR_a (op_pick_t rfl rfl) rfl rfl ?_
  refine XR_wn (opl_store_pt st 1 rfl rfl rfl rfl rfl (rfl)) rfl rfl fun _ hp st => ?_
  simp only [List.set_cons_zero, List.set_cons_succ] at st
  refine XR_nil ?_
  refine X_seq ?_
  refine X_reg ?_
  refine XR_a (op_ld (st.cell 2 (i := 0) rfl rfl) rfl rfl rfl) rfl rfl ?_
  first | refine XR_a (op_addN (n := 1) rfl rfl (by simp only [inK]; omega)) rfl rfl ?_ | refine XR_a (op_addI rfl rfl (by simp only [inK]; omega)) rfl rfl ?_ | refine XR_a (op_add rfl rfl) rfl rfl ?_
  refine XR_wn (opl_store_pt st 2 rfl rfl rfl rfl rfl (rfl)) rfl rfl fun _ hp st => ?_
  simp only [List.set_cons_zero, List.set_cons_succ] at st
  refine XR_nil ?_
  refine X_seq ?_
  refine X_reg ?_
  refine XR_a (op_ld (st.cell 2 (i := 0) rfl rfl) rfl rfl rfl) rfl rfl ?_
  refine XR_a (op_ld (st.cell 4 (i := 0) rfl rfl) rfl rfl rfl) rfl rfl ?_
  refine XR_a (op_neq rfl rfl) rfl rfl ?_
  refine XR_a (op_assign rfl) rfl rfl ?_
  refine XR_nil ?_
  refine X_ret (.cons (.tmp rfl) .nil) ?_
  exact ⟨rfl, st.tail⟩

theorem each1_spec {pf pi pm pl p3 n1 c1 n2 c2 : Nat} {A1 A2 : Option Addr} {till : Int} {xs ys : List (Stp × Value × Value)} {L : List Res} {hA h0 : Heap} (st : St hA.size h0 h0 (pt pf 4 [.bool true] :: pt pi 3 [nV 0] :: pt pm 24 [.slice A2 n2 c2] :: pt pl 3 [.int .i64 till] :: pt p3 24 [.slice A1 n1 c1] :: row 37 7 (.slice A1 n1 c1) (xs.flatMap stX) :: L)) (hx : Ext hA h0)
    (hrow : row 37 7 (.slice A2 n2 c2) (ys.flatMap stX) ∈ L) (hys : subR hA ys L) (hxs : subIn xs L) (hxy : xs.map (·.1) = ys.map (·.1)) (hn2 : ys.length ≤ 1048576) (hkx : ∀ x ∈ xs, x.1.keep.length ≤ 1048576) :
    Ret Try.prog 29 [.func (.func 12) #[] #[.pointer (some ⟨pf, 0, none⟩), .pointer (some ⟨pi, 0, none⟩), .pointer (some ⟨pm, 0, none⟩), .pointer (some ⟨pl, 0, none⟩)], .pointer (some ⟨p3, 0, none⟩)] h0
      fun v h' => ∃ k : Nat, (k : Int) = (if 0 < till ∧ till < ys.length then till else ys.length) ∧ St hA.size h0 h' (pt pf 4 [.bool true] :: pt pi 3 [nV k] :: pt pm 24 [.slice A2 n2 c2] :: pt pl 3 [.int .i64 till] :: pt p3 24 [.slice A1 n1 c1] :: row 37 7 (.slice A1 n1 c1) (xs.flatMap stX) :: L) := by
  obtain ⟨A2', n2', c2', he2, hl2, _⟩ := row_mem st (List.mem_cons_of_mem _ (List.mem_cons_of_mem _ (List.mem_cons_of_mem _ (List.mem_cons_of_mem _ (List.mem_cons_of_mem _ (List.mem_cons_of_mem _ hrow))))))
  cases he2
  obtain ⟨_, _, _, he1, hl1, _⟩ := st.row 5 rfl
  cases he1
  rw [flat_length _ 7 (fun _ => rfl)] at hl1 hl2
  have hlen : xs.length = ys.length := by have := congrArg List.length hxy; simpa using this
  refine ret_of_X Try.func29 rfl rfl fun w0 hw0 => ?_
  simp only [argE, Nat.zero_add, Nat.reduceAdd]
  refine X_scope rfl (fun _ _ _ hh => hh) ?_
  refine X_seq ?_
  refine X_label ?_
  refine X_seq ?_
  refine X_reg ?_
  refine XR_a (op_ld (st.cell 4 (i := 0) rfl rfl) rfl rfl rfl) rfl rfl ?_
  refine XR_a (op_len rfl rfl rfl) rfl rfl ?_
  refine XR_a (op_move rfl) rfl rfl ?_
  refine XR_nil ?_
  refine X_block ?_
  refine X_loop (fun j => n1 - j) (fun j => [(0, .func (.func 12) #[] #[.pointer (some ⟨pf, 0, none⟩), .pointer (some ⟨pi, 0, none⟩), .pointer (some ⟨pm, 0, none⟩), .pointer (some ⟨pl, 0, none⟩)]), (5, .slice A1 n1 c1), (6, nV n1), (7, nV j)])
    (fun (j : Nat) hp => j ≤ n1 ∧ (till ≤ 0 ∨ (j : Int) < till) ∧ St hA.size h0 hp (pt pf 4 [.bool true] :: pt pi 3 [nV j] :: pt pm 24 [.slice A2 n2 c2] :: pt pl 3 [.int .i64 till] :: pt p3 24 [.slice A1 n1 c1] :: row 37 7 (.slice A1 n1 c1) (xs.flatMap stX) :: L))
    0 (.cons rfl (.cons rfl (.cons rfl (.cons rfl (.nil _))))) ⟨Nat.zero_le _, by omega, st⟩ ?_
  clear st
  rintro j hp ⟨hj, htl, st⟩
  refine X_seq ?_
  refine X_reg ?_
  refine XR_a (op_lss rfl rfl) rfl rfl ?_
  refine XR_nil ?_
  refine X_seq ?_
  refine X_if rfl (fun h => ?_) (fun h => ?_)
  · have hj1 : j < xs.length := by omega
    have hj2 : j < ys.length := by omega
    obtain ⟨g1, o1, rfl, hc1⟩ := Rd.flat stX 7 (st.rdS 5 rfl).2 (fun _ => rfl) (by omega) (by omega)
    have hsub : ∀ x ∈ xs, okX hp x := hxs.ok (st.tail.tail.tail.tail.tail.tail)
    obtain ⟨⟨Ad, nd, cd, e1, hl1, r1⟩, ⟨Ak, nk, ck, e2, hl2k, r2⟩⟩ := hsub xs[j] (List.getElem_mem hj1)
    have hcx := hc1 j hj1
    subst hl1 hl2k
    simp only [stX, e1, e2] at hcx
    have hxj : ys[j].1 = xs[j].1 := by
      have := congrArg (fun l : List Stp => l[j]?) hxy
      simpa [hj1, hj2] using this.symm
    refine X_skip ?_
    refine X_seq ?_
    refine X_block ?_
    refine X_seq ?_
    refine X_reg ?_
    refine XR_a (op_move rfl) rfl rfl ?_
    refine XR_a (op_index (i := j) rfl rfl rfl (by omega)) rfl rfl ?_
    refine XR_a (op_ldA (vs := stC xs[j].1 (.slice Ad xs[j].1.data.length cd) (.slice Ak xs[j].1.keep.length ck)) hcx rfl rfl rfl rfl) rfl rfl ?_
    refine XR_wa (opl_new rfl) rfl rfl rfl ?_
    rintro _ hp6 ⟨p4, rfl, hnew⟩
    have hE6 : Ext hp hp6 := (St.new (St.start hp) hnew).low
    replace st := st.new hnew
    refine XR_a (op_assign rfl) rfl rfl ?_
    refine XR_wn (opl_store_whole (us := stC xs[j].1 (.slice Ad xs[j].1.data.length cd) (.slice Ak xs[j].1.keep.length ck)) st 0 rfl rfl rfl rfl rfl (one_stC _ rfl rfl) rfl) rfl rfl fun _ hp7 st => ?_
    simp only [List.set_cons_zero] at st
    have hsub7 : ∀ x ∈ xs, okX hp7 x := hxs.ok (st.tail.tail.tail.tail.tail.tail.tail)
    obtain ⟨⟨Ad', nd', cd', e1', hl1', r1'⟩, ⟨Ak', nk', ck', e2', hl2k', r2'⟩⟩ := hsub7 xs[j] (List.getElem_mem hj1)
    rw [e1] at e1'
    rw [e2] at e2'
    cases e1'
    cases e2'
    refine XR_nil ?_
    refine X_seq ?_
    refine X_reg ?_
    refine XR_a (op_move rfl) rfl rfl ?_
    refine XR_a (op_move rfl) rfl rfl ?_
    refine XR_a (op_ldA (vs := stC xs[j].1 (.slice Ad xs[j].1.data.length cd) (.slice Ak xs[j].1.keep.length ck)) (st.cells 0 rfl) rfl rfl rfl rfl) rfl rfl ?_
    have stK := st.tail
    refine XR_wa (opl_callV2 rfl rfl rfl (each1_yield (hA := hA) (j := j) (F := pt p3 24 [.slice (some ⟨g1, o1, none⟩) n1 c1] :: row 37 7 (.slice (some ⟨g1, o1, none⟩) n1 c1) (xs.flatMap stX) :: L) stK.here (Low.trans hx stK.low) (List.mem_cons_of_mem _ (List.mem_cons_of_mem _ hrow)) (fun x hx => ⟨(hys x hx).1, List.mem_cons_of_mem _ (List.mem_cons_of_mem _ (hys x hx).2)⟩) hj2 hxj r1' r2' (hkx _ (List.getElem_mem hj1)) hn2) (by kernel_rfl)) rfl rfl rfl ?_
    rintro _ hp ⟨rfl, st8⟩
    replace st := stK.trans st8
    first | refine XR_a (op_notd rfl) rfl rfl ?_ | refine XR_a (op_not rfl) rfl rfl ?_
    refine XR_nil ?_
    refine X_if rfl (fun h => ?_) (fun h => ?_)
    · have htl2 : ((j + 1 : Nat) : Int) = till := by omega
      refine X_exit rfl ?_
      refine X_end .nil ?_
      exact ⟨j + 1, by split <;> omega, st⟩
    · refine X_skip ?_
      refine X_blk ?_
      refine X_reg ?_
      first | refine XR_a (op_addN (n := 1) rfl rfl (by simp only [inK]; omega)) rfl rfl ?_ | refine XR_a (op_addI rfl rfl (by simp only [inK]; omega)) rfl rfl ?_ | refine XR_a (op_add rfl rfl) rfl rfl ?_
      refine XR_a (op_move rfl) rfl rfl ?_
      refine XR_nil ?_
      exact X_again (j + 1) (.cons rfl (.cons rfl (.cons rfl (.cons rfl (.nil _))))) ⟨by omega, by omega, st⟩ (by omega)
  · refine X_exit rfl ?_
    refine X_end .nil ?_
    refine ⟨j, ?_, st⟩
    rw [if_neg (by omega)]
    omega

theorem scriptEach_ret {m c : Nat} {till : Int} {A : Option Addr} {l : List UInt8} {h0 : Heap} (hr : Rd h0 A (l.map byteV)) (hl : l.length = m) (hmc : m ≤ c) :
    Ret Try.prog 4 [.slice A m c, .int .i64 till] h0 fun v h' => v = .bool true ∧ Ext h0 h' := by
  refine ret_of_X Try.func4 rfl rfl fun w0 hw0 => ?_
  simp only [argE, Nat.zero_add, Nat.reduceAdd]
  have st := St.start h0
  refine X_seq ?_
  refine X_reg ?_
  refine XR_wa (opl_bx (cs := [.int .i64 till]) rfl rfl) rfl rfl rfl ?_
  rintro _ hp ⟨pl, rfl, hnew⟩
  replace st := st.new hnew
  refine XR_a (op_assign rfl) rfl rfl ?_
  refine XR_nil ?_
  refine X_seq ?_
  refine X_seq ?_
  refine X_reg ?_
  refine XR_a (op_move rfl) rfl rfl ?_
  refine XR_a (op_len rfl rfl rfl) rfl rfl ?_
  refine XR_a (op_gtr rfl rfl) rfl rfl ?_
  refine XR_nil ?_
  refine X_if rfl (fun h => ?_) (fun h => ?_)
  · refine X_seq ?_
    refine X_reg ?_
    refine XR_wa (opl_call (lives31 _) rfl (by kernel_rfl)) rfl rfl rfl ?_
    rintro _ hp ⟨rfl, hx⟩
    refine XR_a (op_assign rfl) rfl rfl ?_
    refine XR_nil ?_
    refine X_ret (.cons (.tmp rfl) .nil) ?_
    exact ⟨rfl, st.low.trans (hx.mono st.low.size)⟩
  · refine X_skip ?_
    refine X_seq ?_
    refine X_reg ?_
    refine XR_a (op_move rfl) rfl rfl ?_
    refine XR_wa (opl_call (take31_ref hr st.low hl (by omega) hmc) rfl (by kernel_rfl)) rfl rfl rfl ?_
    rintro _ hp2 ⟨w2, ys, L2, rfl, hys, hsub2, st2⟩
    obtain ⟨A2, n2, c2, rfl, hl2, _⟩ := st2.row 0 rfl
    have hyr := takeS31_right l
    have hyn := takeS31_len l
    rw [← hys] at hyr hyn
    rw [List.length_map] at hyn
    rw [flat_length _ 7 (fun _ => rfl)] at hl2
    replace st := (st.join st2).perm (List.perm_append_singleton _ _)
    clear st2
    refine XR_a (op_move rfl) rfl rfl ?_
    refine XR_a (op_extract rfl rfl) rfl rfl ?_
    refine XR_a (op_extract rfl rfl) rfl rfl ?_
    refine XR_wa (opl_new rfl) rfl rfl rfl ?_
    rintro _ hp ⟨p5, rfl, hnew⟩
    replace st := st.new hnew
    refine XR_wn (opl_store_pt st 0 rfl rfl rfl rfl rfl (rfl)) rfl rfl fun _ hp st => ?_
    simp only [List.set_cons_zero, List.set_cons_succ] at st
    refine XR_a (op_assign rfl) rfl rfl ?_
    refine XR_nil ?_
    refine X_seq ?_
    refine X_reg ?_
    refine XR_a (op_move rfl) rfl rfl ?_
    refine XR_wa (opl_call (seach_spec (hr.ext st.low) hl (by omega) hmc) rfl (by kernel_rfl)) rfl rfl rfl ?_
    rintro _ hp3 ⟨p3, w1, xs, L1, rfl, hxs, hsub1, st3⟩
    obtain ⟨A1, n1, c1, rfl, hl1, _⟩ := st3.row 1 rfl
    replace st := st.join st3
    clear st3
    simp only [List.cons_append] at st
    replace st := st.perm ((List.perm_append_comm).cons _ |>.cons _)
    simp only [List.cons_append] at st
    refine XR_a (op_assign rfl) rfl rfl ?_
    refine XR_nil ?_
    refine X_seq ?_
    refine X_seq ?_
    refine X_reg ?_
    refine XR_a (op_move rfl) rfl rfl ?_
    refine XR_a (op_func_eql rfl rfl rfl) rfl rfl ?_
    refine XR_nil ?_
    refine X_else rfl ?_
    refine X_skip ?_
    refine X_seq ?_
    refine X_reg ?_
    refine XR_wa (opl_new rfl) rfl rfl rfl ?_
    rintro _ hp ⟨p8, rfl, hnew⟩
    replace st := st.new hnew
    refine XR_wn (opl_store_pt st 0 rfl rfl rfl rfl rfl (rfl)) rfl rfl fun _ hp st => ?_
    simp only [List.set_cons_zero, List.set_cons_succ] at st
    refine XR_nil ?_
    refine X_seq ?_
    refine X_reg ?_
    refine XR_wa (opl_new rfl) rfl rfl rfl ?_
    rintro _ hp ⟨p9, rfl, hnew⟩
    replace st := st.new hnew
    refine XR_wn (opl_store_pt st 0 rfl rfl rfl rfl rfl (rfl)) rfl rfl fun _ hp st => ?_
    simp only [List.set_cons_zero, List.set_cons_succ] at st
    replace st := St.reF [_, _, _, _, _, _] 6 st [0, 1, 4, 5, 2, 3] (by decide)
    simp only [List.map_cons, List.map_nil, getR, List.cons_append, List.nil_append] at st
    refine XR_nil ?_
    refine X_seq ?_
    refine X_reg ?_
    refine XR_a (op_move rfl) rfl rfl ?_
    refine XR_a (op_mkFunc rfl) rfl rfl ?_
    refine XR_wa (opl_callV2 rfl rfl rfl (each1_spec (hA := h0) st.here st.low List.mem_cons_self (fun x hx => ⟨(hsub2 x hx).1, List.mem_cons_of_mem _ (List.mem_append_left _ (hsub2 x hx).2)⟩) (fun x hx r hr => List.mem_cons_of_mem _ (List.mem_append_right _ (hsub1 x hx r hr))) (hxs.trans hys.symm) (by omega) (fun x hx => by obtain ⟨_, _, _, _, _, h6⟩ := hyr x.1 (by rw [hys, ← hxs]; exact List.mem_map_of_mem (f := (·.1)) hx); omega)) (by kernel_rfl)) rfl rfl rfl ?_
    rintro _ hp ⟨k, hk, st9⟩
    replace st := st.trans st9
    refine XR_nil ?_
    refine X_seq ?_
    refine X_reg ?_
    refine XR_a (op_ld (st.cell 2 (i := 0) rfl rfl) rfl rfl rfl) rfl rfl ?_
    refine XR_a (op_len rfl rfl rfl) rfl rfl ?_
    refine XR_a (op_assign rfl) rfl rfl ?_
    refine XR_nil ?_
    refine X_seq ?_
    refine X_seq ?_
    refine X_reg ?_
    refine XR_a (op_ld (st.cell 3 (i := 0) rfl rfl) rfl rfl rfl) rfl rfl ?_
    refine XR_a (op_gtr rfl rfl) rfl rfl ?_
    refine XR_a (op_move rfl) rfl rfl ?_
    refine XR_if 31 rfl (fun h => ?_) (fun h => ?_)
    · refine XR_a (op_ld (st.cell 3 (i := 0) rfl rfl) rfl rfl rfl) rfl rfl ?_
      refine XR_a (op_move rfl) rfl rfl ?_
      refine XR_a (op_lss rfl rfl) rfl rfl ?_
      refine XR_a (op_pick_t rfl rfl) rfl rfl ?_
      refine XR_nil ?_
      refine X_if rfl (fun h => ?_) (fun h => ?_)
      · refine X_reg ?_
        refine XR_a (op_ld (st.cell 3 (i := 0) rfl rfl) rfl rfl rfl) rfl rfl ?_
        refine XR_a (op_assign rfl) rfl rfl ?_
        refine XR_nil ?_
        refine X_seq ?_
        refine X_reg ?_
        refine XR_a (op_ld (st.cell 0 (i := 0) rfl rfl) rfl rfl rfl) rfl rfl ?_
        refine XR_a (op_move rfl) rfl rfl ?_
        refine XR_a (op_ld (st.cell 1 (i := 0) rfl rfl) rfl rfl rfl) rfl rfl ?_
        refine XR_a (op_move rfl) rfl rfl ?_
        refine XR_a (op_eql rfl rfl) rfl rfl ?_
        refine XR_as (.bool true) (congrArg Value.bool (decide_eq_true (by revert hk; split <;> omega))) ?_
        refine XR_a (op_pick_t rfl rfl) rfl rfl ?_
        refine XR_a (op_move rfl) rfl rfl ?_
        refine XR_wa (opl_call (lives31 _) rfl (by kernel_rfl)) rfl rfl rfl ?_
        rintro _ hp ⟨rfl, hx⟩
        refine XR_a (op_pick_t rfl rfl) rfl rfl ?_
        refine XR_a (op_assign rfl) rfl rfl ?_
        refine XR_nil ?_
        refine X_ret (.cons (.tmp rfl) .nil) ?_
        exact ⟨rfl, st.low.trans (hx.mono st.low.size)⟩
      · refine X_skip ?_
        refine X_seq ?_
        refine X_reg ?_
        refine XR_a (op_ld (st.cell 0 (i := 0) rfl rfl) rfl rfl rfl) rfl rfl ?_
        refine XR_a (op_move rfl) rfl rfl ?_
        refine XR_a (op_ld (st.cell 1 (i := 0) rfl rfl) rfl rfl rfl) rfl rfl ?_
        refine XR_a (op_move rfl) rfl rfl ?_
        refine XR_a (op_eql rfl rfl) rfl rfl ?_
        refine XR_as (.bool true) (congrArg Value.bool (decide_eq_true (by revert hk; split <;> omega))) ?_
        refine XR_a (op_pick_t rfl rfl) rfl rfl ?_
        refine XR_a (op_move rfl) rfl rfl ?_
        refine XR_wa (opl_call (lives31 _) rfl (by kernel_rfl)) rfl rfl rfl ?_
        rintro _ hp ⟨rfl, hx⟩
        refine XR_a (op_pick_t rfl rfl) rfl rfl ?_
        refine XR_a (op_assign rfl) rfl rfl ?_
        refine XR_nil ?_
        refine X_ret (.cons (.tmp rfl) .nil) ?_
        exact ⟨rfl, st.low.trans (hx.mono st.low.size)⟩
    · refine XR_no rfl rfl ?_
      refine XR_no rfl rfl ?_
      refine XR_no rfl rfl ?_
      refine XR_a (op_pick_f rfl rfl) rfl rfl ?_
      refine XR_nil ?_
      refine X_else rfl ?_
      refine X_skip ?_
      refine X_seq ?_
      refine X_reg ?_
      refine XR_a (op_ld (st.cell 0 (i := 0) rfl rfl) rfl rfl rfl) rfl rfl ?_
      refine XR_a (op_move rfl) rfl rfl ?_
      refine XR_a (op_ld (st.cell 1 (i := 0) rfl rfl) rfl rfl rfl) rfl rfl ?_
      refine XR_a (op_move rfl) rfl rfl ?_
      refine XR_a (op_eql rfl rfl) rfl rfl ?_
      refine XR_as (.bool true) (congrArg Value.bool (decide_eq_true (by revert hk; split <;> omega))) ?_
      refine XR_a (op_pick_t rfl rfl) rfl rfl ?_
      refine XR_a (op_move rfl) rfl rfl ?_
      refine XR_wa (opl_call (lives31 _) rfl (by kernel_rfl)) rfl rfl rfl ?_
      rintro _ hp ⟨rfl, hx⟩
      refine XR_a (op_pick_t rfl rfl) rfl rfl ?_
      refine XR_a (op_assign rfl) rfl rfl ?_
      refine XR_nil ?_
      refine X_ret (.cons (.tmp rfl) .nil) ?_
      exact ⟨rfl, st.low.trans (hx.mono st.low.size)⟩
end Go.Bn
