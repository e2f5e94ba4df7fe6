/- Plans may have fewer words: FnValidPlan returns true for every list of bytes. Conditions: none. -/
import Derived.Test.YtidjdekokibkiaaPFnValidPlanx2
namespace Go.Proofs.Ytidjdekokibkiaa.Pure
open Go.RowKit Go.Proofs.Ytidjdekokibkiaa.PFnValidPlan Go.Proofs.YtidjdekokibkiaaW.PrintWords Go.Proofs.YtidjdekokibkiaaW.PrintLast
open Go
set_option linter.unusedVariables false
set_option linter.unusedSimpArgs false

theorem xor64_range (a b : Int) (ha : 0 ≤ a) (ha' : a < 1073741824) (hb : 0 ≤ b) (hb' : b < 1073741824) :
    0 ≤ Go.bits .xor .i64 a b ∧ Go.bits .xor .i64 a b < 1073741824 := by
  obtain ⟨m, rfl⟩ := Int.eq_ofNat_of_zero_le ha
  obtain ⟨n, rfl⟩ := Int.eq_ofNat_of_zero_le hb
  have hm : m < 2 ^ 30 := by omega
  have hn : n < 2 ^ 30 := by omega
  have hx : m ^^^ n < 2 ^ 30 := Nat.xor_lt_two_pow hm hn
  have hm' : m % 2 ^ IntKind.i64.bits = m := Nat.mod_eq_of_lt (Nat.lt_of_lt_of_le hm (by decide))
  have hn' : n % 2 ^ IntKind.i64.bits = n := Nat.mod_eq_of_lt (Nat.lt_of_lt_of_le hn (by decide))
  simp only [Go.bits, BitVec.ofInt_natCast, BitVec.toNat_xor, BitVec.toNat_ofNat, hm', hn']
  rw [IntWalk.i64_in ((m ^^^ n : Nat) : Int) (by omega)]
  omega

theorem rd_range (l : List Int) (hl : ∀ x ∈ l, 0 ≤ x ∧ x ≤ 255) (i : Int) : 0 ≤ rd l i ∧ rd l i ≤ 255 := by
  unfold rd
  rw [List.getD_eq_getElem?_getD]
  cases h : l[i.toNat]? with
  | none => simp
  | some v => exact hl v (List.mem_of_getElem? h)

theorem tmod_range (a n : Int) (ha : 0 ≤ a) (hn : 1 ≤ n) : 0 ≤ Int.tmod a n ∧ Int.tmod a n < n :=
  ⟨Int.tmod_nonneg n ha, Int.tmod_lt_of_pos a (by omega)⟩

theorem pick_ok (l : List Int) (hl : ∀ x ∈ l, 0 ≤ x ∧ x ≤ 255) (hn : l.length ≤ 2000) (k : Nat) (p n : Int) (hp : 0 ≤ p) (hp' : p ≤ 1000000) :
    ∃ v, spec_reader_pick.f (k + 1) l p n = some (v, p + 1) ∧ 0 ≤ v ∧ (1 ≤ n → v < n) := by
  have hw : wrap64 (p + 1) = p + 1 := IntWalk.wrap64_in _ (by omega)
  unfold spec_reader_pick.f
  rw [hw]
  by_cases h1 : n < 1
  · rw [if_pos h1]
    exact ⟨0, by simp [spec_reader_pick.j0], by omega, fun h => by omega⟩
  · rw [if_neg h1]
    by_cases h2 : l.length = 0
    · exact ⟨0, by simp [spec_reader_pick.j0, h2], by omega, fun h => by omega⟩
    · have hb : ((l.length : Int) == 0) = false := beq_eq_false_iff_ne.mpr (by omega)
      have hw1 : wrap64 (p + 1 - 1) = p := (IntWalk.wrap64_in (p + 1 - 1) (by omega)).trans (by omega)
      have hn0 : n ≠ 0 := by omega
      have hl0 : (l.length : Int) ≠ 0 := by omega
      simp only [spec_reader_pick.j0, hb, hw1, Bool.false_eq_true, if_false, hn0, hl0]
      by_cases h3 : p < (l.length : Int)
      · rw [if_pos h3, if_pos hp]
        have hr := rd_range l hl p
        rw [IntWalk.wrap64_in (rd l p) (by omega)]
        have ht := tmod_range (rd l p) n hr.1 (by omega)
        exact ⟨_, rfl, ht.1, fun _ => ht.2⟩
      · rw [if_neg h3]
        have hm1 := tmod_range p (l.length : Int) hp (by omega)
        rw [if_pos hm1.1, if_pos hm1.2]
        have hw7 : wrap64 (p * 7) = p * 7 := IntWalk.wrap64_in _ (by omega)
        have hw73 : wrap64 (p * 7 + 3) = p * 7 + 3 := IntWalk.wrap64_in _ (by omega)
        rw [hw7, hw73]
        have hm2 := tmod_range (p * 7 + 3) (l.length : Int) (by omega) (by omega)
        rw [if_pos hm2.1, if_pos hm2.2]
        have hr1 := rd_range l hl (Int.tmod p (l.length : Int))
        have hr2 := rd_range l hl (Int.tmod (p * 7 + 3) (l.length : Int))
        generalize rd l (Int.tmod p (l.length : Int)) = r1 at hr1 ⊢
        generalize rd l (Int.tmod (p * 7 + 3) (l.length : Int)) = r2 at hr2 ⊢
        have hq : 0 ≤ Int.tdiv p (l.length : Int) ∧ Int.tdiv p (l.length : Int) ≤ p := by
          rw [Int.tdiv_eq_ediv_of_nonneg hp]
          exact ⟨Int.ediv_nonneg hp (by omega), Int.ediv_le_self _ hp⟩
        generalize Int.tdiv p (l.length : Int) = q at hq ⊢
        simp (disch := omega) only [IntWalk.wrap64_in]
        have hX : 0 ≤ r1 * 131 + r2 * 1117 + p * 29 + q * 53 ∧ r1 * 131 + r2 * 1117 + p * 29 + q * 53 < 1073741824 := by omega
        generalize r1 * 131 + r2 * 1117 + p * 29 + q * 53 = X at hX ⊢
        have hd : 0 ≤ Int.tdiv X 64 ∧ Int.tdiv X 64 < 1073741824 := by
          rw [Int.tdiv_eq_ediv_of_nonneg hX.1]; omega
        rw [IntWalk.wrap64_in (Int.tdiv X 64) (by omega)]
        have hx := xor64_range X (Int.tdiv X 64) hX.1 hX.2 hd.1 hd.2
        have ht := tmod_range (Go.bits .xor .i64 X (Int.tdiv X 64)) n hx.1 (by omega)
        exact ⟨_, rfl, ht.1, fun _ => ht.2⟩

theorem reader_ok (l0 : List Int) (hw : ∀ x ∈ l0, (Lit.int .u8 x).wf = true) :
    ∃ l, spec_newReader.f l0 = some (l, 0) ∧ (∀ x ∈ l, 0 ≤ x ∧ x ≤ 255) ∧ l.length ≤ 2000 := by
  have hb : ∀ x ∈ l0, 0 ≤ x ∧ x ≤ 255 := by
    intro x hx
    have h := hw x hx
    simp [Lit.wf, IntKind.min, IntKind.max, IntKind.signed, IntKind.bits] at h
    omega
  unfold spec_newReader.f
  by_cases h : (l0.length : Int) > 2000
  · rw [if_pos h, if_pos (by omega)]
    exact ⟨_, rfl, fun x hx => hb x (List.mem_of_mem_take hx), by rw [List.length_take]; omega⟩
  · rw [if_neg h]
    exact ⟨_, rfl, hb, by omega⟩

theorem one_ok (l : List Int) (hl : ∀ x ∈ l, 0 ≤ x ∧ x ≤ 255) (hn : l.length ≤ 2000) (k : Nat) (p : Int) (xs : List Int) (hp : 0 ≤ p) (hp' : p ≤ 1000000) (hx : 1 ≤ xs.length) :
    ∃ v, spec_reader_one.f (k + 1) l p xs = some (v, p + 1) ∧ v ∈ xs := by
  obtain ⟨v, hv, h0, h1⟩ := pick_ok l hl hn k p (xs.length : Int) hp hp'
  have h2 := h1 (by omega)
  unfold spec_reader_one.f
  rw [hv]
  simp only [Option.bind_some]
  rw [if_pos h0, if_pos h2]
  refine ⟨_, rfl, ?_⟩
  unfold rd
  have h3 : v.toNat < xs.length := by omega
  rw [List.getD_eq_getElem?_getD, List.getElem?_eq_getElem h3]
  exact List.getElem_mem h3

theorem within_val (x a b : Int) : impl_within.f x a b = some (decide (a ≤ x ∧ x ≤ b)) := by
  unfold impl_within.f
  by_cases h : a ≤ x
  · rw [if_pos h]; simp [h]
  · rw [if_neg h]; simp [h]

theorem inRange_val (x a b : Int) : spec_inRange.f x a b = some (decide (a ≤ x ∧ x ≤ b)) := by
  unfold spec_inRange.f
  by_cases h : a ≤ x
  · rw [if_pos h]; simp [h]
  · rw [if_neg h]; simp [h]


theorem plan_j0 (l : List Int) (hb : ∀ x ∈ l, 0 ≤ x ∧ x ≤ 255) (hn : l.length ≤ 2000) (p a b c d : Int) (hp : 0 ≤ p) (hp' : p ≤ 1000) :
    ∃ r, spec_aPlan.j0 2 l p a b c d = some r := by
  obtain ⟨v, hv, h0, h1⟩ := pick_ok l hb hn 0 p 24 hp (by omega)
  obtain ⟨u, hu, _⟩ := one_ok l hb hn 0 (p + 1) [1, 5] (by omega) (by omega) (by simp)
  obtain ⟨t, ht, _⟩ := one_ok l hb hn 0 (p + 1) [0, 6] (by omega) (by omega) (by simp)
  simp only [spec_aPlan.j0, hv, Option.bind_some, hu, ht]
  by_cases e0 : v = 0
  · rw [if_pos e0]; exact ⟨_, rfl⟩
  · rw [if_neg e0]
    by_cases e1 : v = 1
    · rw [if_pos e1]; exact ⟨_, rfl⟩
    · rw [if_neg e1]; exact ⟨_, rfl⟩

theorem draw_ok (l0 : List Int) (hw : ∀ x ∈ l0, (Lit.int .u8 x).wf = true) : ∃ v, spec_DrawValidPlan.f 2 l0 = some v := by
  obtain ⟨l, hr, hb, hn⟩ := reader_ok l0 hw
  obtain ⟨a, ha, _, _⟩ := pick_ok l hb hn 1 0 3 (by omega) (by omega)
  obtain ⟨b, hb1, _⟩ := one_ok l hb hn 1 (0 + 1) [1, 2, 1, 3, 2, 4] (by omega) (by omega) (by simp)
  obtain ⟨c, hc1, _⟩ := one_ok l hb hn 1 (0 + 1 + 1) [1, 1, 2, 1, 3, 2, 4] (by omega) (by omega) (by simp)
  obtain ⟨d, hd1, _⟩ := one_ok l hb hn 1 (0 + 1 + 1 + 1) [3, 4, 2, 5, 1] (by omega) (by omega) (by simp)
  obtain ⟨e, he1, _, _⟩ := pick_ok l hb hn 1 (0 + 1 + 1 + 1 + 1) 3 (by omega) (by omega)
  unfold spec_DrawValidPlan.f
  simp only [hr, Option.bind_some]
  unfold spec_aPlan.f
  simp only [ha, hb1, hc1, hd1, he1, Option.bind_some]
  by_cases h : e > 0
  · rw [if_pos h]
    obtain ⟨f, hf1, _, _⟩ := pick_ok l hb hn 1 (0 + 1 + 1 + 1 + 1 + 1) (wrap64 (wrap64 (2 + a) - 1)) (by omega) (by omega)
    simp only [hf1, Option.bind_some]
    obtain ⟨g, hg1, _, _⟩ := pick_ok l hb hn 1 (0 + 1 + 1 + 1 + 1 + 1 + 1) (wrap64 (wrap64 (2 + a) - wrap64 (1 + f))) (by omega) (by omega)
    simp only [hg1, Option.bind_some]
    obtain ⟨r, hr'⟩ := plan_j0 l hb hn (0 + 1 + 1 + 1 + 1 + 1 + 1 + 1) (wrap64 (2 + a)) (wrap64 (1 + f)) (wrap64 (1 + g)) d (by omega) (by omega)
    rw [hr']
    exact ⟨_, rfl⟩
  · rw [if_neg h]
    obtain ⟨r, hr'⟩ := plan_j0 l hb hn (0 + 1 + 1 + 1 + 1 + 1) (wrap64 (2 + a)) b c d (by omega) (by omega)
    rw [hr']
    exact ⟨_, rfl⟩

theorem impl_val (a b c d : Int) : impl_ValidPlan.f a b c d = some (decide ((2 ≤ a ∧ a ≤ 4) ∧ (1 ≤ b ∧ b ≤ 4) ∧ (1 ≤ c ∧ c ≤ 4) ∧ (1 ≤ d ∧ d ≤ 5))) := by
  unfold impl_ValidPlan.f
  simp only [within_val, Option.bind_some, decide_eq_true_eq]
  by_cases h1 : 2 ≤ a ∧ a ≤ 4
  · rw [if_pos h1]
    by_cases h2 : 1 ≤ b ∧ b ≤ 4
    · rw [if_pos h2]
      by_cases h3 : 1 ≤ c ∧ c ≤ 4
      · rw [if_pos h3]; simp [h1, h2, h3]
      · rw [if_neg h3]; simp [h3]
    · rw [if_neg h2]; simp [h2]
  · rw [if_neg h1]; simp [h1]

theorem spec_val (a b c d : Int) : spec_ValidPlan.f a b c d = impl_ValidPlan.f a b c d := by
  unfold spec_ValidPlan.f spec_validPlan.f impl_ValidPlan.f
  simp only [within_val, inRange_val, Option.bind_some]
  cases h : (if decide (2 ≤ a ∧ a ≤ 4) = true then if decide (1 ≤ b ∧ b ≤ 4) = true then if decide (1 ≤ c ∧ c ≤ 4) = true then some (decide (1 ≤ d ∧ d ≤ 5)) else some false else some false else some false) <;> rfl

theorem FnValidPlan : laws_FnValidPlan.Pure := by
  intro l0 _ _ hw
  refine ⟨2, ?_⟩
  unfold laws_FnValidPlan.f
  by_cases hc : (l0.length : Int) > 1048576
  · rw [if_pos hc]
  · rw [if_neg hc]
    obtain ⟨⟨a, b, c, d⟩, hv⟩ := draw_ok l0 hw
    rw [hv]
    simp only [Option.bind_some, spec_val, impl_val]
    by_cases h : (2 ≤ a ∧ a ≤ 4) ∧ (1 ≤ b ∧ b ≤ 4) ∧ (1 ≤ c ∧ c ≤ 4) ∧ (1 ≤ d ∧ d ≤ 5)
    · simp only [laws_FnValidPlan.j0, impl_val, h, Option.bind_some]
      have hd : wrap64 (d - 1) = d - 1 := IntWalk.wrap64_in _ (by omega)
      rw [hd]
      by_cases e : d - 1 = 0
      · simp [e]
      · have h5 : (2 ≤ a ∧ a ≤ 4) ∧ (1 ≤ b ∧ b ≤ 4) ∧ (1 ≤ c ∧ c ≤ 4) ∧ (1 ≤ d - 1 ∧ d - 1 ≤ 5) := by omega
        simp [e, h5]
    · simp only [laws_FnValidPlan.j0, spec_val, impl_val, h, Option.bind_some]
      simp [h]

end Go.Proofs.Ytidjdekokibkiaa.Pure
