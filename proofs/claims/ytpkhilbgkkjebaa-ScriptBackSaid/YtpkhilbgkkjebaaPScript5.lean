/- Plain: steps that are put are taken; bytes of which steps are taken are just those that these are put as. -/
import Derived.Test.YtpkhilbgkkjebaaPScript4
set_option linter.unusedVariables false
set_option linter.unusedSimpArgs false
namespace Go.Bn
theorem seg_take {l pre mid post : List UInt8} {a w : Nat} (h : l = pre ++ (mid ++ post)) (ha : a = pre.length) (hw : w = mid.length) : (l.drop a).take w = mid := by
  subst h ha hw
  rw [List.drop_left, List.take_left]
theorem seg_lv {l pre mid post : List UInt8} {a w : Nat} (h : l = pre ++ (mid ++ post)) (ha : a = pre.length) (hw : w = mid.length) : lv l a w = leV mid := by
  unfold lv; rw [seg_take h ha hw]
theorem Stp.ext5 {s t : Stp} (h1 : s.kind = t.kind) (h2 : s.name = t.name) (h3 : s.data = t.data) (h4 : s.n = t.n) (h5 : s.keep = t.keep) (h6 : s.names = t.names) (h7 : s.fill = t.fill) : s = t := by
  cases s; cases t; simp only at h1 h2 h3 h4 h5 h6 h7; subst h1 h2 h3 h4 h5 h6 h7; rfl
theorem leV_one (b : UInt8) : leV [b] = b.toNat := by show b.toNat + 256 * 0 = _; omega
theorem ofNat_small {n : Nat} (h : n < 256) : (UInt8.ofNat n).toNat = n := by rw [UInt8.toNat_ofNat', Nat.mod_eq_of_lt h]
/-- A step that stands somewhere is read. -/
theorem one_at {l pre post : List UInt8} {s : Stp} (hs : s.right) (h : l = pre ++ (oneB s ++ post)) : eS l pre.length = pre.length + (oneB s).length ∧ stepAt l pre.length = s ∧ okT31 l pre.length := by
  have hr := hs
  obtain ⟨h1, h2, h3, h4, h5, h6⟩ := hs
  obtain ⟨kd, hkd⟩ : ∃ k : Nat, s.kind = k := ⟨s.kind.toNat, by omega⟩
  obtain ⟨nn, hnn⟩ : ∃ k : Nat, s.n + 1 = k := ⟨(s.n + 1).toNat, by omega⟩
  obtain ⟨nm, hnm⟩ : ∃ k : Nat, s.names = k := ⟨s.names.toNat, by omega⟩
  have hB : oneB s = [UInt8.ofNat kd] ++ ([UInt8.ofNat s.name.length] ++ (s.name ++ (leB 2 nn ++ (leB 4 s.data.length ++ (s.data ++ ([UInt8.ofNat s.keep.length] ++ (pack s.keep ++ ([UInt8.ofNat nm] ++ [s.fill])))))))) := by
    simp [oneB, hkd, hnn, hnm]
  have hlen := oneB_length s
  have hpl := pack_length s.keep
  rw [hB] at h
  obtain ⟨a, ha⟩ : ∃ a, pre.length = a := ⟨_, rfl⟩
  rw [ha]
  have e0 : lv l a 1 = kd := by
    rw [seg_lv (l := l) (a := a) (w := 1) (pre := pre) (mid := [UInt8.ofNat kd]) (post := [UInt8.ofNat s.name.length] ++ (s.name ++ (leB 2 nn ++ (leB 4 s.data.length ++ (s.data ++ ([UInt8.ofNat s.keep.length] ++ (pack s.keep ++ ([UInt8.ofNat nm] ++ [s.fill]))))))) ++ post) (by rw [h]; simp) ha.symm rfl, leV_one, ofNat_small (by omega)]
  have e1 : nmS l a = s.name.length := by
    unfold nmS
    rw [seg_lv (l := l) (a := a + 1) (w := 1) (pre := pre ++ [UInt8.ofNat kd]) (mid := [UInt8.ofNat s.name.length]) (post := (s.name ++ (leB 2 nn ++ (leB 4 s.data.length ++ (s.data ++ ([UInt8.ofNat s.keep.length] ++ (pack s.keep ++ ([UInt8.ofNat nm] ++ [s.fill]))))))) ++ post) (by rw [h]; simp) (by simp [ha]) rfl, leV_one, ofNat_small (by omega)]
  have ek : kS l a = a + 2 + s.name.length := by rw [kS_eq, e1]
  have e2 : (l.drop (a + 2)).take (nmS l a) = s.name := by
    rw [e1]
    exact seg_take (pre := pre ++ [UInt8.ofNat kd, UInt8.ofNat s.name.length]) (mid := s.name) (post := (leB 2 nn ++ (leB 4 s.data.length ++ (s.data ++ ([UInt8.ofNat s.keep.length] ++ (pack s.keep ++ ([UInt8.ofNat nm] ++ [s.fill])))))) ++ post) (by rw [h]; simp) (by simp [ha]) rfl
  have e3 : lv l (kS l a) 2 = nn := by
    rw [seg_lv (l := l) (a := kS l a) (w := 2) (pre := pre ++ [UInt8.ofNat kd, UInt8.ofNat s.name.length] ++ s.name) (mid := leB 2 nn) (post := (leB 4 s.data.length ++ (s.data ++ ([UInt8.ofNat s.keep.length] ++ (pack s.keep ++ ([UInt8.ofNat nm] ++ [s.fill]))))) ++ post) (by rw [h]; simp) (by rw [ek]; simp [ha]; omega) (leB_length _ _).symm, leV_leB, Nat.mod_eq_of_lt (by simp; omega)]
  have e4 : szS l a = s.data.length := by
    unfold szS
    rw [seg_lv (l := l) (a := kS l a + 2) (w := 4) (pre := pre ++ [UInt8.ofNat kd, UInt8.ofNat s.name.length] ++ s.name ++ leB 2 nn) (mid := leB 4 s.data.length) (post := (s.data ++ ([UInt8.ofNat s.keep.length] ++ (pack s.keep ++ ([UInt8.ofNat nm] ++ [s.fill])))) ++ post) (by rw [h]; simp) (by rw [ek]; simp [ha, leB_length]; omega) (leB_length _ _).symm, leV_leB, Nat.mod_eq_of_lt (by simp; omega)]
  have e5 : (l.drop (kS l a + 6)).take (szS l a) = s.data := by
    rw [e4]
    exact seg_take (pre := pre ++ [UInt8.ofNat kd, UInt8.ofNat s.name.length] ++ s.name ++ leB 2 nn ++ leB 4 s.data.length) (mid := s.data) (post := ([UInt8.ofNat s.keep.length] ++ (pack s.keep ++ ([UInt8.ofNat nm] ++ [s.fill]))) ++ post) (by rw [h]; simp) (by rw [ek]; simp [ha, leB_length]; omega) rfl
  have ed : dS l a = a + 8 + s.name.length + s.data.length := by rw [dS_eq, e4, ek]; omega
  have e6 : cnS l a = s.keep.length := by
    unfold cnS
    rw [seg_lv (l := l) (a := dS l a) (w := 1) (pre := pre ++ [UInt8.ofNat kd, UInt8.ofNat s.name.length] ++ s.name ++ leB 2 nn ++ leB 4 s.data.length ++ s.data) (mid := [UInt8.ofNat s.keep.length]) (post := (pack s.keep ++ ([UInt8.ofNat nm] ++ [s.fill])) ++ post) (by rw [h]; simp) (by rw [ed]; simp [ha, leB_length]; omega) rfl, leV_one, ofNat_small (by omega)]
  have ee : eS l a = a + (oneB s).length := by rw [eS_eq, ed, e6, hlen]; omega
  have e7 : kbS l a = pack s.keep := by
    unfold kbS
    rw [e6]
    exact seg_take (pre := pre ++ [UInt8.ofNat kd, UInt8.ofNat s.name.length] ++ s.name ++ leB 2 nn ++ leB 4 s.data.length ++ s.data ++ [UInt8.ofNat s.keep.length]) (mid := pack s.keep) (post := ([UInt8.ofNat nm] ++ [s.fill]) ++ post) (by rw [h]; simp) (by rw [ed]; simp [ha, leB_length]; omega) hpl.symm
  have e8 : lv l (eS l a - 2) 1 = nm := by
    rw [seg_lv (l := l) (a := eS l a - 2) (w := 1) (pre := pre ++ [UInt8.ofNat kd, UInt8.ofNat s.name.length] ++ s.name ++ leB 2 nn ++ leB 4 s.data.length ++ s.data ++ [UInt8.ofNat s.keep.length] ++ pack s.keep) (mid := [UInt8.ofNat nm]) (post := [s.fill] ++ post) (by rw [h]; simp) (by rw [ee, hlen]; simp [ha, leB_length, hpl]; omega) rfl, leV_one, ofNat_small (by omega)]
  have e9 : lv l (eS l a - 1) 1 = s.fill.toNat := by
    rw [seg_lv (l := l) (a := eS l a - 1) (w := 1) (pre := pre ++ [UInt8.ofNat kd, UInt8.ofNat s.name.length] ++ s.name ++ leB 2 nn ++ leB 4 s.data.length ++ s.data ++ [UInt8.ofNat s.keep.length] ++ pack s.keep ++ [UInt8.ofNat nm]) (mid := [s.fill]) (post := post) (by rw [h]; simp) (by rw [ee, hlen]; simp [ha, leB_length, hpl]; omega) rfl, leV_one]
  have eb : (bitsB (kbS l a)).take (cnS l a) = s.keep := by
    rw [e7, e6, bitsB_pack, List.take_left]
  have est : stepAt l a = s := by
    unfold stepAt
    rw [e0, e2, e5, e3, eb, e8, e9]
    exact Stp.ext5 hkd.symm rfl rfl (show (nn : Int) - 1 = s.n by omega) rfl hnm.symm UInt8.ofNat_toNat
  refine ⟨ee, est, by rw [est]; exact hr, ?_⟩
  refine (pack_take (by rw [e7, e6, hpl])).1 ?_
  rw [eb, e7]
theorem oneE_at {l pre post : List UInt8} {s : Stp} (hs : s.right) (h : l = pre ++ (oneB s ++ post)) : oneE l pre.length = 0 := by
  obtain ⟨h1, h2, h3⟩ := one_at hs h
  unfold oneE
  have : l.length = pre.length + (oneB s).length + post.length := by rw [h]; simp; omega
  rw [if_neg (by omega), if_pos h3]
theorem go_at {l : List UInt8} : ∀ (xs : List Stp) (pre post : List UInt8) (r : Nat) (acc : List Stp), (∀ s ∈ xs, s.right) → l = pre ++ (xs.flatMap oneB ++ post) →
    goS l (xs.length + r) pre.length acc = goS l r (pre.length + (xs.flatMap oneB).length) (acc ++ xs)
  | [], pre, post, r, acc, _, _ => by simp
  | s :: xs, pre, post, r, acc, hr, h => by
    have hs := hr s List.mem_cons_self
    rw [List.flatMap_cons] at h
    have h' : l = pre ++ (oneB s ++ (xs.flatMap oneB ++ post)) := by rw [h]; simp
    obtain ⟨h1, h2, h3⟩ := one_at hs h'
    rw [List.length_cons, show xs.length + 1 + r = (xs.length + r) + 1 by omega, goS, if_neg (by rw [oneE_at hs h']; simp), h1, h2]
    have ih := go_at (l := l) xs (pre ++ oneB s) post r (acc ++ [s]) (fun x hx => hr x (List.mem_cons_of_mem _ hx)) (by rw [h']; simp)
    rw [List.length_append] at ih
    rw [ih, List.flatMap_cons, List.length_append, List.append_assoc, Nat.add_assoc]
    rfl
theorem lv_two {n : Nat} {r : List UInt8} (h : n ≤ 200) : lv (leB 2 n ++ r) 0 2 = n := by
  rw [seg_lv (l := leB 2 n ++ r) (a := 0) (w := 2) (pre := []) (mid := leB 2 n) (post := r) rfl rfl (leB_length _ _).symm, leV_leB, Nat.mod_eq_of_lt (by simp; omega)]
/-- Steps that are put are taken; a byte more is refused. -/
theorem take_put {xs : List Stp} {post : List UInt8} (hn : xs.length ≤ 200) (hr : ∀ s ∈ xs, s.right) : takeS31 (leB 2 xs.length ++ (xs.flatMap oneB ++ post)) = if post = [] then (xs, 0) else ([], 3) := by
  obtain ⟨l, hl⟩ : ∃ l, leB 2 xs.length ++ (xs.flatMap oneB ++ post) = l := ⟨_, rfl⟩
  have h2 : lv l 0 2 = xs.length := by rw [← hl]; exact lv_two hn
  have hlen : l.length = 2 + (xs.flatMap oneB).length + post.length := by rw [← hl]; simp [leB_length]; omega
  have hg := go_at (l := l) xs (leB 2 xs.length) post 0 [] hr hl.symm
  rw [leB_length, Nat.add_zero, List.nil_append] at hg
  rw [hl]
  unfold takeS31
  rw [if_neg (by omega), h2, if_neg (by omega), hg, goS]
  cases post with
  | nil => simp only [List.length_nil] at hlen; rw [if_neg (by omega), if_pos rfl]
  | cons b r => simp only [List.length_cons] at hlen; rw [if_pos (by omega), if_neg (by simp)]
theorem lv_pre {l : List UInt8} {k a w : Nat} (h : a + w ≤ k) : lv (l.take k) a w = lv l a w := by
  unfold lv
  rw [List.drop_take, List.take_take, Nat.min_eq_left (by omega)]
/-- A step cut off is one whose bytes end too soon. -/
theorem one_cut {l : List UInt8} {k a : Nat} (hk : k ≤ l.length) (h : k < eS l a) : oneE (l.take k) a = 2 := by
  refine oneE_short ?_
  rw [List.length_take, Nat.min_eq_left hk]
  refine Classical.byContradiction fun hn => ?_
  have he := eS_eq (l.take k) a
  have hd := dS_eq (l.take k) a
  have hkk := kS_eq (l.take k) a
  have e1 : nmS (l.take k) a = nmS l a := by unfold nmS; exact lv_pre (by omega)
  have ek : kS (l.take k) a = kS l a := by rw [kS_eq, kS_eq, e1]
  have e2 : szS (l.take k) a = szS l a := by unfold szS; rw [ek]; exact lv_pre (by omega)
  have ed : dS (l.take k) a = dS l a := by rw [dS_eq, dS_eq, ek, e2]
  have e3 : cnS (l.take k) a = cnS l a := by unfold cnS; rw [ed]; exact lv_pre (by omega)
  have ee : eS (l.take k) a = eS l a := by rw [eS_eq, eS_eq, ed, e3]
  omega
/-- A byte less is refused. -/
theorem take_less {xs : List Stp} (hn : xs.length ≤ 200) (hr : ∀ s ∈ xs, s.right) : takeS31 ((leB 2 xs.length ++ xs.flatMap oneB).take ((leB 2 xs.length ++ xs.flatMap oneB).length - 1)) = ([], 2) := by
  rcases List.eq_nil_or_concat xs with rfl | ⟨ys, s, rfl⟩
  · kernel_rfl
  · rw [List.concat_eq_append] at *
    have hs : s.right := hr s (by simp)
    have hB := oneB_length s
    obtain ⟨l, hl⟩ : ∃ l, leB 2 (ys ++ [s]).length ++ (ys ++ [s]).flatMap oneB = l := ⟨_, rfl⟩
    obtain ⟨pre, hpre⟩ : ∃ pre, leB 2 (ys ++ [s]).length ++ ys.flatMap oneB = pre := ⟨_, rfl⟩
    have hl2 : l = pre ++ (oneB s ++ []) := by rw [← hl, ← hpre]; simp
    obtain ⟨h1, h2, h3⟩ := one_at hs hl2
    rw [hl]
    have hlen : l.length = pre.length + (oneB s).length := by rw [hl2]; simp
    have hplen : pre.length = 2 + (ys.flatMap oneB).length := by rw [← hpre]; simp [leB_length]
    obtain ⟨t, ht⟩ : ∃ t, l.take (l.length - 1) = t := ⟨_, rfl⟩
    have htl : t.length = l.length - 1 := by rw [← ht, List.length_take]; omega
    have hc := one_cut (l := l) (k := l.length - 1) (a := pre.length) (by omega) (by omega)
    rw [ht] at hc ⊢
    have ht2 : t = leB 2 (ys ++ [s]).length ++ (ys.flatMap oneB ++ (oneB s).take ((oneB s).length - 1)) := by
      rw [← ht, hl2, List.append_nil, List.length_append, List.take_append, List.take_of_length_le (by omega), ← List.append_assoc, hpre]
      congr 2; omega
    have hv : lv t 0 2 = (ys ++ [s]).length := by rw [ht2]; exact lv_two hn
    have hg := go_at (l := t) ys (leB 2 (ys ++ [s]).length) _ 1 [] (fun x hx => hr x (List.mem_append_left _ hx)) ht2
    have hg1 : goS t 1 pre.length ([] ++ ys) = ([], 2) := by rw [goS, if_pos (by rw [hc]; simp), hc]
    rw [leB_length, ← hplen, hg1] at hg
    unfold takeS31
    rw [if_neg (by omega), hv, if_neg (by omega), List.length_append]
    exact hg
theorem leB_leV : ∀ (l : List UInt8), leB l.length (leV l) = l
  | [] => rfl
  | b :: r => by
    rw [List.length_cons, leB, leV]
    have hb : b.toNat < 256 := b.toNat_lt
    have h1 : UInt8.ofNat (b.toNat + 256 * leV r) = b := by
      apply UInt8.toNat_inj.1
      rw [UInt8.toNat_ofNat']; omega
    rw [h1, show (b.toNat + 256 * leV r) / 256 = leV r by omega, leB_leV r]
theorem leB_lv {l : List UInt8} {a w : Nat} (h : a + w ≤ l.length) : leB w (lv l a w) = (l.drop a).take w := by
  have := leB_leV ((l.drop a).take w)
  rw [List.length_take, List.length_drop, Nat.min_eq_left (by omega)] at this
  exact this
theorem lv_one_take {l : List UInt8} {a : Nat} (h : a + 1 ≤ l.length) : [UInt8.ofNat (lv l a 1)] = (l.drop a).take 1 := by
  rw [← leB_lv h]
  show _ = [UInt8.ofNat (lv l a 1)]
  rfl
theorem drop_cut (l : List UInt8) (a w : Nat) : l.drop a = (l.drop a).take w ++ l.drop (a + w) := by
  rw [← List.drop_drop, List.take_append_drop]
/-- A step that is read is put as it stood. -/
theorem one_back {l : List UInt8} {a : Nat} (h : oneE l a = 0) : l.drop a = oneB (stepAt l a) ++ l.drop (eS l a) := by
  obtain ⟨he, hr, hz⟩ := oneE_zero h
  have h1 := eS_eq l a
  have h2 := dS_eq l a
  have h3 := kS_eq l a
  have hkb : (kbS l a).length = (cnS l a + 7) / 8 := by unfold kbS; rw [List.length_take, List.length_drop]; omega
  have hpk := (pack_take hkb).2 hz
  have hbl := bitsB_length (kbS l a)
  have n1 : (stepAt l a).name.length = nmS l a := by simp only [stepAt]; rw [List.length_take, List.length_drop]; omega
  have n2 : (stepAt l a).data.length = szS l a := by simp only [stepAt]; rw [List.length_take, List.length_drop]; omega
  have n3 : (stepAt l a).keep.length = cnS l a := by simp only [stepAt]; rw [List.length_take]; omega
  have hB : oneB (stepAt l a) = (l.drop a).take 1 ++ ((l.drop (a + 1)).take 1 ++ ((l.drop (a + 2)).take (nmS l a) ++ ((l.drop (kS l a)).take 2 ++ ((l.drop (kS l a + 2)).take 4 ++ ((l.drop (kS l a + 6)).take (szS l a) ++ ((l.drop (dS l a)).take 1 ++
      ((l.drop (dS l a + 1)).take ((cnS l a + 7) / 8) ++ ((l.drop (eS l a - 2)).take 1 ++ (l.drop (eS l a - 1)).take 1)))))))) := by
    unfold oneB
    rw [n1, n2, n3]
    rw [show pack (stepAt l a).keep = kbS l a from hpk]
    rw [← lv_one_take (l := l) (a := a) (by omega), ← lv_one_take (l := l) (a := a + 1) (by omega), ← leB_lv (l := l) (a := kS l a) (w := 2) (by omega), ← leB_lv (l := l) (a := kS l a + 2) (w := 4) (by omega),
      ← lv_one_take (l := l) (a := dS l a) (by omega), ← lv_one_take (l := l) (a := eS l a - 2) (by omega), ← lv_one_take (l := l) (a := eS l a - 1) (by omega)]
    simp [stepAt, nmS, szS, cnS, kbS]
  rw [hB]
  have c1 := drop_cut l a 1
  have c2 := drop_cut l (a + 1) 1
  have c3 := drop_cut l (a + 2) (nmS l a)
  have c4 := drop_cut l (kS l a) 2
  have c5 := drop_cut l (kS l a + 2) 4
  have c6 := drop_cut l (kS l a + 6) (szS l a)
  have c7 := drop_cut l (dS l a) 1
  have c8 := drop_cut l (dS l a + 1) ((cnS l a + 7) / 8)
  have c9 := drop_cut l (eS l a - 2) 1
  have c10 := drop_cut l (eS l a - 1) 1
  rw [show a + 1 + 1 = a + 2 by omega] at c2
  rw [show a + 2 + nmS l a = kS l a by omega] at c3
  rw [show kS l a + 2 + 4 = kS l a + 6 by omega] at c5
  rw [show kS l a + 6 + szS l a = dS l a by omega] at c6
  rw [show dS l a + 1 + (cnS l a + 7) / 8 = eS l a - 2 by omega] at c8
  rw [show eS l a - 2 + 1 = eS l a - 1 by omega] at c9
  rw [show eS l a - 1 + 1 = eS l a by omega] at c10
  simp only [List.append_assoc]
  rw [← c10, ← c9, ← c8, ← c7, ← c6, ← c5, ← c4, ← c3, ← c2, ← c1]
theorem go_back {l : List UInt8} : ∀ (r a : Nat) (acc m : List Stp), a ≤ l.length → goS l r a acc = (m, 0) → ∃ xs, m = acc ++ xs ∧ xs.length = r ∧ l.drop a = xs.flatMap oneB
  | 0, a, acc, m, ha, h => by
    rw [goS] at h
    split at h
    · cases h
    · cases h
      exact ⟨[], by simp, rfl, by rw [List.drop_of_length_le (by omega)]; rfl⟩
  | r + 1, a, acc, m, ha, h => by
    rw [goS] at h
    split at h
    · rename_i h0
      exact absurd (congrArg Prod.snd h) h0
    · rename_i h0
      have h0 := Classical.not_not.1 h0
      obtain ⟨he, hok⟩ := oneE_zero h0
      obtain ⟨xs, e1, e2, e3⟩ := go_back r (eS l a) _ m he h
      refine ⟨stepAt l a :: xs, by rw [e1]; simp, by simp [e2], ?_⟩
      rw [one_back h0, e3, List.flatMap_cons]
theorem go_bad {l : List UInt8} : ∀ (r a : Nat) (acc : List Stp), (goS l r a acc).2 ≠ 0 → (goS l r a acc).1 = []
  | 0, a, acc => by
    rw [goS]
    split
    · exact fun _ => rfl
    · exact fun h => absurd rfl h
  | r + 1, a, acc => by
    rw [goS]
    split
    · exact fun _ => rfl
    · exact go_bad r _ _
/-- Bytes of which steps are taken are those that these are put as. -/
theorem put_take {l : List UInt8} (h : (takeS31 l).2 = 0) : putS31 (takeS31 l).1 = (l, 0) := by
  have hr := takeS31_right l
  have hn := takeS31_len l
  rw [putS31_ok (by omega) hr]
  revert h
  unfold takeS31
  split
  · intro h; cases h
  · split
    · intro h; cases h
    · rename_i h2 h200
      intro h
      obtain ⟨xs, e1, e2, e3⟩ := go_back (l := l) (lv l 0 2) 2 [] (goS l (lv l 0 2) 2 []).1 (by omega) (Prod.ext rfl h)
      rw [List.nil_append] at e1
      rw [e1, e2, ← e3, leB_lv (by omega)]
      exact Prod.ext (List.take_append_drop 2 l) rfl
theorem take_bad {l : List UInt8} (h : (takeS31 l).2 ≠ 0) : (takeS31 l).1 = [] := by
  revert h
  unfold takeS31
  split
  · exact fun _ => rfl
  · split
    · exact fun _ => rfl
    · exact go_bad _ _ _
theorem putS31_zero {xs : List Stp} (h : (putS31 xs).2 = 0) : xs.length ≤ 200 ∧ (∀ s ∈ xs, s.right) ∧ putS31 xs = (leB 2 xs.length ++ xs.flatMap oneB, 0) := by
  by_cases h1 : 200 < xs.length
  · rw [putS31_long h1] at h; cases h
  · by_cases h2 : ∃ s ∈ xs, ¬ s.right
    · obtain ⟨s, h3, h4⟩ := h2
      rw [putS31_bad h1 h3 h4] at h; cases h
    · have h3 : ∀ s ∈ xs, s.right := fun s hs => Classical.byContradiction fun hn => h2 ⟨s, hs, hn⟩
      exact ⟨by omega, h3, putS31_ok h1 h3⟩
end Go.Bn
