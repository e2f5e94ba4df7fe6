/- Ways let through what their least part does: FnLeastWay returns true for every list of bytes. Conditions: none. -/
import Derived.Test.YtghnljpimkchhaaHFnLeastWayx3
namespace Go.Proofs.Ytghnljpimkchhaa.Pure
open Go.RowKit Go.Proofs.Ytghnljpimkchhaa.HFnLeastWay Go.Proofs.YtghnljpimkchhaaW.PrintWords Go.Proofs.YtghnljpimkchhaaW.PrintLast
open Go
set_option linter.unusedVariables false
set_option linter.unusedSimpArgs false

theorem rd_nat (l : List Int) (i : Nat) (h : i < l.length) : rd l (i : Int) = l[i] := by
  unfold rd
  rw [Int.toNat_natCast, List.getD_eq_getElem?_getD, List.getElem?_eq_getElem h]
  rfl

theorem step_nat (i : Nat) (h : i < 4611686018427387904) : wrap64 ((i : Int) + 1) = ((i + 1 : Nat) : Int) := by
  rw [IntWalk.wrap64_in ((i : Int) + 1) (by omega)]
  rfl

theorem within_val (x a b : Int) : impl_within.f x a b = some (decide (a ≤ x ∧ x ≤ b)) := by
  unfold impl_within.f
  by_cases h : a ≤ x
  · rw [if_pos h]; simp [h]
  · rw [if_neg h]; simp [h]

theorem inRange_val (x a b : Int) : spec_inRange.f x a b = some (decide (a ≤ x ∧ x ≤ b)) := by
  unfold spec_inRange.f
  by_cases h : a ≤ x
  · rw [if_pos h]; simp [h]
  · rw [if_neg h]; simp [h]

def okW (l : List Int) : Bool := l.all fun x => decide (1 ≤ x ∧ x ≤ 60)
theorem lwContains_val (l : List Int) : hand_Contains_LeastWay.f l = some (!okW l) := by
  unfold hand_Contains_LeastWay.f okW impl_LeastWay_1.f
  congr 1
  induction l with
  | nil => rfl
  | cons x l ih =>
    rw [List.any_cons, List.all_cons, ih, within_val, Option.bind_some, Option.getD_some, Bool.not_and]

theorem lwSpec_l0 (l : List Int) (hl : l.length ≤ 2000000) (h1 : 1 ≤ l.length) : ∀ (d k i : Nat), i + d = l.length → d < k → ∃ k', k - d - 1 ≤ k' ∧ k' < k ∧ spec_LeastWay.l0 k l (i : Int) = if (l.drop i).all (fun x => decide (1 ≤ x ∧ x ≤ 60)) = true then spec_LeastWay.l1 k' l (rd l 0) 1 0 else some (0, 0) := by
  intro d
  induction d with
  | zero =>
    intro k i hi hk
    obtain ⟨k, rfl⟩ : ∃ m, k = m + 1 := ⟨k - 1, by omega⟩
    refine ⟨k, by omega, by omega, ?_⟩
    rw [spec_LeastWay.l0, if_neg (by omega), if_pos (by omega), List.drop_eq_nil_of_le (by omega), List.all_nil, if_pos rfl]
  | succ d ih =>
    intro k i hi hk
    obtain ⟨k, rfl⟩ : ∃ m, k = m + 1 := ⟨k - 1, by omega⟩
    obtain ⟨k', g1, g2, g3⟩ := ih k (i + 1) (by omega) (by omega)
    refine ⟨k', by omega, by omega, ?_⟩
    rw [spec_LeastWay.l0, if_pos (by omega), if_pos (by omega), inRange_val, Option.bind_some, step_nat i (by omega), rd_nat l i (by omega), List.drop_eq_getElem_cons (by omega : i < l.length), List.all_cons]
    by_cases h : 1 ≤ l[i]'(by omega) ∧ l[i]'(by omega) ≤ 60
    · rw [decide_eq_true h, if_pos rfl, Bool.true_and, g3]
    · rw [decide_eq_false h, if_neg Bool.false_ne_true, Bool.false_and, if_neg Bool.false_ne_true]

def goodW (l : List Int) (r : Int × Int) : Prop := (∀ x ∈ l, r.1 ≤ x) ∧ r.1 ∈ l ∧ 1 ≤ r.2 ∧ r.2 ≤ l.length ∧ (r.2 = 1 → r.1 = rd l 0)

theorem lw_loop (l : List Int) (hl : l.length ≤ 8) : ∀ (d j k k' : Nat) (t n : Int), j + d = l.length → 1 ≤ j → (∀ i, i < j → ∀ (hi : i < l.length), t ≤ l[i]) → t ∈ l → 1 ≤ n → n ≤ (j : Int) → (n = 1 → t = rd l 0) → d + 1 < k → d < k' →
    ∃ r, impl_LeastWay.l0 k l t n = some r ∧ spec_LeastWay.l1 k' l t n (j : Int) = some r ∧ goodW l r := by
  intro d
  induction d with
  | zero =>
    intro j k k' t n hj h1 hB ht hn hn' h1n hk hk'
    obtain ⟨k, rfl⟩ : ∃ m, k = m + 1 := ⟨k - 1, by omega⟩
    obtain ⟨k', rfl⟩ : ∃ m, k' = m + 1 := ⟨k' - 1, by omega⟩
    have hm := Lib.idxBy_miss (fun _ y => decide (y < t)) l l.length 0 (fun i hi => by
      rw [getElem!_pos l i hi]
      have := hB i (by omega) hi
      exact decide_eq_false (by omega))
    rw [List.take_length] at hm
    rw [impl_LeastWay.l0, hm, if_pos (by omega), spec_LeastWay.l1, if_neg (by omega)]
    refine ⟨_, rfl, rfl, ?_, ht, hn, by show n ≤ _; omega, h1n⟩
    intro x hx
    obtain ⟨i, hi, e⟩ := List.getElem_of_mem hx
    rw [← e]
    exact hB i (by omega) hi
  | succ d ih =>
    intro j k k' t n hj h1 hB ht hn hn' h1n hk hk'
    obtain ⟨k', rfl⟩ : ∃ m, k' = m + 1 := ⟨k' - 1, by omega⟩
    rw [spec_LeastWay.l1, if_pos (by omega), if_pos (by omega), step_nat j (by omega), rd_nat l j (by omega)]
    by_cases h : l[j]'(by omega) < t
    · obtain ⟨k, rfl⟩ : ∃ m, k = m + 1 := ⟨k - 1, by omega⟩
      have hh := Lib.idxBy_hit (fun _ y => decide (y < t)) l l.length j 0 (by omega) (Nat.le_refl _) (by rw [getElem!_pos l j (by omega)]; exact decide_eq_true h) (fun i hi => by
        rw [getElem!_pos l i (by omega)]
        have := hB i hi (by omega)
        exact decide_eq_false (by omega))
      rw [List.take_length] at hh
      rw [impl_LeastWay.l0, hh, if_neg (by omega), if_pos (show (j : Int) < (l.length : Int) by omega), if_pos h, rd_nat l j (by omega), IntWalk.wrap64_in (n + 1) (by omega)]
      refine ih (j + 1) k k' _ (n + 1) (by omega) (by omega) ?_ (List.getElem_mem _) (by omega) (by omega) (fun e => by omega) (by omega) (by omega)
      intro i hi hi'
      by_cases e : i = j
      · subst e; exact Int.le_refl _
      · have := hB i (by omega) hi'
        omega
    · rw [if_neg h]
      refine ih (j + 1) k k' t n (by omega) (by omega) ?_ ht hn (by omega) h1n (by omega) (by omega)
      intro i hi hi'
      by_cases e : i = j
      · subst e; omega
      · exact hB i (by omega) hi'

theorem lw_start (l : List Int) (hl : l.length ≤ 8) (h1 : 1 ≤ l.length) (k k' : Nat) (hk : 20 ≤ k) (hk' : 20 ≤ k') : ∃ r, impl_LeastWay.l0 k l (rd l 0) 1 = some r ∧ spec_LeastWay.l1 k' l (rd l 0) 1 0 = some r ∧ goodW l r := by
  obtain ⟨k', rfl⟩ : ∃ m, k' = m + 1 := ⟨k' - 1, by omega⟩
  have e0 : rd l 0 = l[0]'(by omega) := rd_nat l 0 (by omega)
  obtain ⟨r, g1, g2, g3⟩ := lw_loop l hl (l.length - 1) 1 k k' (rd l 0) 1 (by omega) (by omega) (fun i hi hi' => by
    have : i = 0 := by omega
    subst this
    rw [e0]; exact Int.le_refl _) (by rw [e0]; exact List.getElem_mem _) (by omega) (by omega) (fun _ => rfl) (by omega) (by omega)
  refine ⟨r, g1, ?_, g3⟩
  rw [spec_LeastWay.l1, if_pos (by omega), if_pos (by omega), if_neg (Int.lt_irrefl _), (IntWalk.wrap64_in ((0 : Int) + 1) (by omega)).trans (show (0 : Int) + 1 = ((1 : Nat) : Int) by omega)]
  exact g2

theorem lw_ok (l : List Int) (hl : l.length ≤ 2000000) : ∃ r : Int × Int, (∀ k, l.length + 60 ≤ k → impl_LeastWay.f k l = some r) ∧ (∀ k, l.length + 60 ≤ k → spec_LeastWay.f k l = some r) ∧ (r = (0, 0) ∨ goodW l r) := by
  by_cases h1 : 1 ≤ (l.length : Int) ∧ (l.length : Int) ≤ 8
  · by_cases h2 : okW l = true
    · obtain ⟨r, e1, e2, e3⟩ := lw_start l (by omega) (by omega) 20 20 (by omega) (by omega)
      refine ⟨r, ?_, ?_, Or.inr e3⟩
      · intro k hk
        obtain ⟨r', f1, f2, _⟩ := lw_start l (by omega) (by omega) k 20 (by omega) (by omega)
        rw [e2] at f2
        unfold impl_LeastWay.f
        rw [decide_eq_true h1, if_pos rfl, lwContains_val, Option.bind_some, h2, Bool.not_true, if_neg Bool.false_ne_true, if_pos (by omega), f1, ← f2]
      · intro k hk
        obtain ⟨k', g1, g2, g3⟩ := lwSpec_l0 l hl (by omega) l.length k 0 (by omega) (by omega)
        obtain ⟨r', f1, f2, _⟩ := lw_start l (by omega) (by omega) 20 k' (by omega) (by omega)
        rw [e1] at f1
        unfold spec_LeastWay.f
        rw [inRange_val, Option.bind_some, decide_eq_true h1, if_pos rfl]
        rw [List.drop_zero] at g3
        have g4 : spec_LeastWay.l0 k l 0 = _ := g3
        rw [g4, if_pos (show (l.all fun x => decide (1 ≤ x ∧ x ≤ 60)) = true from h2), f2, ← f1]
    · refine ⟨(0, 0), ?_, ?_, Or.inl rfl⟩
      · intro k hk
        unfold impl_LeastWay.f
        rw [decide_eq_true h1, if_pos rfl, lwContains_val, Option.bind_some, Bool.eq_false_iff.mpr h2, Bool.not_false, if_pos rfl]
      · intro k hk
        obtain ⟨k', g1, g2, g3⟩ := lwSpec_l0 l hl (by omega) l.length k 0 (by omega) (by omega)
        unfold spec_LeastWay.f
        rw [inRange_val, Option.bind_some, decide_eq_true h1, if_pos rfl]
        rw [List.drop_zero] at g3
        have g4 : spec_LeastWay.l0 k l 0 = _ := g3
        rw [g4, if_neg (show ¬ (l.all fun x => decide (1 ≤ x ∧ x ≤ 60)) = true from h2)]
  · refine ⟨(0, 0), ?_, ?_, Or.inl rfl⟩
    · intro k hk
      unfold impl_LeastWay.f
      rw [decide_eq_false h1, if_neg Bool.false_ne_true]
    · intro k hk
      unfold spec_LeastWay.f
      rw [inRange_val, Option.bind_some, decide_eq_false h1, if_neg Bool.false_ne_true]

theorem xor64_range (a b : Int) (ha : 0 ≤ a) (ha' : a < 1073741824) (hb : 0 ≤ b) (hb' : b < 1073741824) :
    0 ≤ Go.bits .xor .i64 a b ∧ Go.bits .xor .i64 a b < 1073741824 := by
  obtain ⟨m, rfl⟩ := Int.eq_ofNat_of_zero_le ha
  obtain ⟨n, rfl⟩ := Int.eq_ofNat_of_zero_le hb
  have hm : m < 2 ^ 30 := by omega
  have hn : n < 2 ^ 30 := by omega
  have hx : m ^^^ n < 2 ^ 30 := Nat.xor_lt_two_pow hm hn
  have hm' : m % 2 ^ IntKind.i64.bits = m := Nat.mod_eq_of_lt (Nat.lt_of_lt_of_le hm (by decide))
  have hn' : n % 2 ^ IntKind.i64.bits = n := Nat.mod_eq_of_lt (Nat.lt_of_lt_of_le hn (by decide))
  simp only [Go.bits, BitVec.ofInt_natCast, BitVec.toNat_xor, BitVec.toNat_ofNat, hm', hn']
  rw [IntWalk.i64_in ((m ^^^ n : Nat) : Int) (by omega)]
  omega

theorem rd_range (l : List Int) (hl : ∀ x ∈ l, 0 ≤ x ∧ x ≤ 255) (i : Int) : 0 ≤ rd l i ∧ rd l i ≤ 255 := by
  unfold rd
  rw [List.getD_eq_getElem?_getD]
  cases h : l[i.toNat]? with
  | none => simp
  | some v => exact hl v (List.mem_of_getElem? h)

theorem tmod_range (a n : Int) (ha : 0 ≤ a) (hn : 1 ≤ n) : 0 ≤ Int.tmod a n ∧ Int.tmod a n < n :=
  ⟨Int.tmod_nonneg n ha, Int.tmod_lt_of_pos a (by omega)⟩

theorem pick_ok (l : List Int) (hl : ∀ x ∈ l, 0 ≤ x ∧ x ≤ 255) (hn : l.length ≤ 2000) (k : Nat) (p n : Int) (hp : 0 ≤ p) (hp' : p ≤ 1000000) :
    ∃ v, spec_reader_pick.f (k + 1) l p n = some (v, p + 1) ∧ 0 ≤ v ∧ (1 ≤ n → v < n) := by
  have hw : wrap64 (p + 1) = p + 1 := IntWalk.wrap64_in _ (by omega)
  unfold spec_reader_pick.f
  rw [hw]
  by_cases h1 : n < 1
  · rw [if_pos h1]
    exact ⟨0, by simp [spec_reader_pick.j0], by omega, fun h => by omega⟩
  · rw [if_neg h1]
    by_cases h2 : l.length = 0
    · exact ⟨0, by simp [spec_reader_pick.j0, h2], by omega, fun h => by omega⟩
    · have hb : ((l.length : Int) == 0) = false := beq_eq_false_iff_ne.mpr (by omega)
      have hw1 : wrap64 (p + 1 - 1) = p := (IntWalk.wrap64_in (p + 1 - 1) (by omega)).trans (by omega)
      have hn0 : n ≠ 0 := by omega
      have hl0 : (l.length : Int) ≠ 0 := by omega
      simp only [spec_reader_pick.j0, hb, hw1, Bool.false_eq_true, if_false, hn0, hl0]
      by_cases h3 : p < (l.length : Int)
      · rw [if_pos h3, if_pos hp]
        have hr := rd_range l hl p
        rw [IntWalk.wrap64_in (rd l p) (by omega)]
        have ht := tmod_range (rd l p) n hr.1 (by omega)
        exact ⟨_, rfl, ht.1, fun _ => ht.2⟩
      · rw [if_neg h3]
        have hm1 := tmod_range p (l.length : Int) hp (by omega)
        rw [if_pos hm1.1, if_pos hm1.2]
        have hw7 : wrap64 (p * 7) = p * 7 := IntWalk.wrap64_in _ (by omega)
        have hw73 : wrap64 (p * 7 + 3) = p * 7 + 3 := IntWalk.wrap64_in _ (by omega)
        rw [hw7, hw73]
        have hm2 := tmod_range (p * 7 + 3) (l.length : Int) (by omega) (by omega)
        rw [if_pos hm2.1, if_pos hm2.2]
        have hr1 := rd_range l hl (Int.tmod p (l.length : Int))
        have hr2 := rd_range l hl (Int.tmod (p * 7 + 3) (l.length : Int))
        generalize rd l (Int.tmod p (l.length : Int)) = r1 at hr1 ⊢
        generalize rd l (Int.tmod (p * 7 + 3) (l.length : Int)) = r2 at hr2 ⊢
        have hq : 0 ≤ Int.tdiv p (l.length : Int) ∧ Int.tdiv p (l.length : Int) ≤ p := by
          rw [Int.tdiv_eq_ediv_of_nonneg hp]
          exact ⟨Int.ediv_nonneg hp (by omega), Int.ediv_le_self _ hp⟩
        generalize Int.tdiv p (l.length : Int) = q at hq ⊢
        simp (disch := omega) only [IntWalk.wrap64_in]
        have hX : 0 ≤ r1 * 131 + r2 * 1117 + p * 29 + q * 53 ∧ r1 * 131 + r2 * 1117 + p * 29 + q * 53 < 1073741824 := by omega
        generalize r1 * 131 + r2 * 1117 + p * 29 + q * 53 = X at hX ⊢
        have hd : 0 ≤ Int.tdiv X 64 ∧ Int.tdiv X 64 < 1073741824 := by
          rw [Int.tdiv_eq_ediv_of_nonneg hX.1]; omega
        rw [IntWalk.wrap64_in (Int.tdiv X 64) (by omega)]
        have hx := xor64_range X (Int.tdiv X 64) hX.1 hX.2 hd.1 hd.2
        have ht := tmod_range (Go.bits .xor .i64 X (Int.tdiv X 64)) n hx.1 (by omega)
        exact ⟨_, rfl, ht.1, fun _ => ht.2⟩

theorem reader_ok (l0 : List Int) (hw : ∀ x ∈ l0, (Lit.int .u8 x).wf = true) :
    ∃ l, spec_newReader.f l0 = some (l, 0) ∧ (∀ x ∈ l, 0 ≤ x ∧ x ≤ 255) ∧ l.length ≤ 2000 := by
  have hb : ∀ x ∈ l0, 0 ≤ x ∧ x ≤ 255 := by
    intro x hx
    have h := hw x hx
    simp [Lit.wf, IntKind.min, IntKind.max, IntKind.signed, IntKind.bits] at h
    omega
  unfold spec_newReader.f
  by_cases h : (l0.length : Int) > 2000
  · rw [if_pos h, if_pos (by omega)]
    exact ⟨_, rfl, fun x hx => hb x (List.mem_of_mem_take hx), by rw [List.length_take]; omega⟩
  · rw [if_neg h]
    exact ⟨_, rfl, hb, by omega⟩

theorem one_ok (l : List Int) (hl : ∀ x ∈ l, 0 ≤ x ∧ x ≤ 255) (hn : l.length ≤ 2000) (k : Nat) (p : Int) (xs : List Int) (hp : 0 ≤ p) (hp' : p ≤ 1000000) (hx : 1 ≤ xs.length) :
    ∃ v, spec_reader_one.f (k + 1) l p xs = some (v, p + 1) ∧ v ∈ xs := by
  obtain ⟨v, hv, h0, h1⟩ := pick_ok l hl hn k p (xs.length : Int) hp hp'
  have h2 := h1 (by omega)
  unfold spec_reader_one.f
  rw [hv]
  simp only [Option.bind_some]
  rw [if_pos h0, if_pos h2]
  refine ⟨_, rfl, ?_⟩
  unfold rd
  have h3 : v.toNat < xs.length := by omega
  rw [List.getD_eq_getElem?_getD, List.getElem?_eq_getElem h3]
  exact List.getElem_mem h3

theorem drawLW_l0 (b : List Int) (hb : ∀ x ∈ b, 0 ≤ x ∧ x ≤ 255) (hn : b.length ≤ 2000) (m : Int) (hm : m ≤ 9) : ∀ (d k : Nat) (o : List Int) (p : Int), (o.length : Int) + d ≥ m → o.length + d ≤ 10 → 0 ≤ p → p + d ≤ 1000 → d + 2 < k → ∃ l, spec_DrawLeastWay.l0 k o m b p = some l ∧ l.length ≤ 10 := by
  intro d
  induction d with
  | zero =>
    intro k o p h1 h2 h3 h4 hk
    obtain ⟨k, rfl⟩ : ∃ m, k = m + 2 := ⟨k - 2, by omega⟩
    rw [spec_DrawLeastWay.l0, if_neg (by omega)]
    by_cases h5 : (o.length : Int) > 0
    · obtain ⟨v, hv, _, _⟩ := pick_ok b hb hn k p 24 h3 (by omega)
      obtain ⟨u, hu, _⟩ := one_ok b hb hn k (p + 1) [0, 61] (by omega) (by omega) (by simp)
      rw [if_pos h5, hv, Option.bind_some]
      by_cases h6 : v = 0
      · rw [if_pos h6, hu, Option.bind_some, if_pos (by omega)]
        exact ⟨_, rfl, by rw [List.length_set]; omega⟩
      · rw [if_neg h6]
        exact ⟨_, rfl, by omega⟩
    · rw [if_neg h5]
      exact ⟨_, rfl, by omega⟩
  | succ d ih =>
    intro k o p h1 h2 h3 h4 hk
    by_cases h0 : (o.length : Int) < m
    · obtain ⟨k, rfl⟩ : ∃ m, k = m + 2 := ⟨k - 2, by omega⟩
      obtain ⟨v, hv, _, _⟩ := pick_ok b hb hn k p 60 h3 (by omega)
      rw [spec_DrawLeastWay.l0, if_pos h0, hv, Option.bind_some, if_pos (by omega)]
      exact ih (k + 1) _ (p + 1) (by rw [List.length_append, List.length_singleton]; omega) (by rw [List.length_append, List.length_singleton]; omega) (by omega) (by omega) (by omega)
    · exact ih k o p (by omega) (by omega) h3 (by omega) (by omega)

theorem drawLW_ok (l0 : List Int) (hw : ∀ x ∈ l0, (Lit.int .u8 x).wf = true) (k : Nat) (hk : 40 ≤ k) : ∃ l, spec_DrawLeastWay.f k l0 = some l ∧ l.length ≤ 10 := by
  obtain ⟨b, hr, hb, hn⟩ := reader_ok l0 hw
  obtain ⟨k, rfl⟩ : ∃ m, k = m + 1 := ⟨k - 1, by omega⟩
  obtain ⟨v, hv, hmem⟩ := one_ok b hb hn k 0 [3, 4, 2, 1, 8, 0, 9] (by omega) (by omega) (by simp)
  simp only [List.mem_cons, List.not_mem_nil, or_false] at hmem
  obtain ⟨l, h1, h2⟩ := drawLW_l0 b hb hn v (by omega) 9 (k + 1) [] (0 + 1) (by simp; omega) (by simp) (by omega) (by omega) (by omega)
  refine ⟨l, ?_, h2⟩
  unfold spec_DrawLeastWay.f
  rw [hr, Option.bind_some, hv, Option.bind_some, h1]

theorem isIn_l0 (l : List Int) (hl : l.length ≤ 2000000) (v : Int) : ∀ (d k i : Nat), i + d = l.length → d < k → v ∈ l.drop i → laws_isIn.l0 k l v (i : Int) = some true := by
  intro d
  induction d with
  | zero =>
    intro k i hi hk hm
    rw [List.drop_eq_nil_of_le (by omega)] at hm
    cases hm
  | succ d ih =>
    intro k i hi hk hm
    obtain ⟨k, rfl⟩ : ∃ m, k = m + 1 := ⟨k - 1, by omega⟩
    rw [laws_isIn.l0, if_pos (by omega), if_pos (by omega), rd_nat l i (by omega), step_nat i (by omega)]
    by_cases h : l[i]'(by omega) = v
    · rw [if_pos h]
    · rw [if_neg h]
      rw [List.drop_eq_getElem_cons (by omega : i < l.length)] at hm
      rcases List.mem_cons.1 hm with e | e
      · exact absurd e.symm h
      · exact ih k (i + 1) (by omega) (by omega) e

theorem lawLW_l0 (l : List Int) (hl : l.length ≤ 10) (r : Int × Int) (h : goodW l r) : ∀ (d k i : Nat), i + d = l.length → d + 20 < k → laws_FnLeastWay.l0 k l r.1 r.2 (i : Int) = some true := by
  intro d
  induction d with
  | zero =>
    intro k i hi hk
    obtain ⟨k, rfl⟩ : ∃ m, k = m + 1 := ⟨k - 1, by omega⟩
    have hin : laws_isIn.f k l r.1 = some true := isIn_l0 l (by omega) r.1 l.length k 0 (by omega) (by omega) h.2.1
    obtain ⟨_, _, g1, g2, g3⟩ := h
    rw [laws_FnLeastWay.l0, if_neg (by omega), hin, Option.bind_some, if_pos rfl, if_pos g2]
    by_cases e : r.2 > 1
    · rw [if_pos e]
    · rw [if_neg e, if_pos (by omega), g3 (by omega), beq_self_eq_true]
  | succ d ih =>
    intro k i hi hk
    obtain ⟨k, rfl⟩ : ∃ m, k = m + 1 := ⟨k - 1, by omega⟩
    have hx := h.1 (l[i]'(by omega)) (List.getElem_mem _)
    rw [laws_FnLeastWay.l0, if_pos (by omega), if_pos (by omega), rd_nat l i (by omega), if_neg (by omega), step_nat i (by omega)]
    exact ih k (i + 1) (by omega) (by omega)

theorem FnLeastWay : laws_FnLeastWay.Pure := by
  intro l0 _ _ hw
  refine ⟨200, ?_⟩
  unfold laws_FnLeastWay.f
  by_cases hc : (l0.length : Int) > 1048576
  · rw [if_pos hc]
  · obtain ⟨l, hd, hl⟩ := drawLW_ok l0 hw 200 (by omega)
    obtain ⟨r, hi, hs, hr⟩ := lw_ok l (by omega)
    rw [if_neg hc, hd, Option.bind_some, hi 200 (by omega), Option.bind_some, hs 200 (by omega), Option.bind_some, if_pos rfl, if_pos rfl, laws_FnLeastWay.j0]
    rcases hr with e | hg
    · subst e
      rfl
    · have hz : (r.2 == 0) = false := beq_eq_false_iff_ne.mpr (by have := hg.2.2.1; omega)
      rw [hz, if_neg Bool.false_ne_true]
      exact lawLW_l0 l hl r hg l.length 199 0 (by omega) (by omega)

end Go.Proofs.Ytghnljpimkchhaa.Pure
