/- Two sums see what is exchanged: FnTwoSums returns true for every list of bytes. Conditions: none. -/
import Derived.Test.YtfklnhjipahonaaHFnTwoSumsx2
namespace Go.Proofs.Ytfklnhjipahonaa.Pure
open Go.RowKit Go.Proofs.Ytfklnhjipahonaa.HFnTwoSums Go.Proofs.YtfklnhjipahonaaW.PrintWords Go.Proofs.YtfklnhjipahonaaW.PrintLast
open Go
set_option linter.unusedVariables false
set_option linter.unusedSimpArgs false

theorem xor64_range (a b : Int) (ha : 0 ≤ a) (ha' : a < 1073741824) (hb : 0 ≤ b) (hb' : b < 1073741824) :
    0 ≤ Go.bits .xor .i64 a b ∧ Go.bits .xor .i64 a b < 1073741824 := by
  obtain ⟨m, rfl⟩ := Int.eq_ofNat_of_zero_le ha
  obtain ⟨n, rfl⟩ := Int.eq_ofNat_of_zero_le hb
  have hm : m < 2 ^ 30 := by omega
  have hn : n < 2 ^ 30 := by omega
  have hx : m ^^^ n < 2 ^ 30 := Nat.xor_lt_two_pow hm hn
  have hm' : m % 2 ^ IntKind.i64.bits = m := Nat.mod_eq_of_lt (Nat.lt_of_lt_of_le hm (by decide))
  have hn' : n % 2 ^ IntKind.i64.bits = n := Nat.mod_eq_of_lt (Nat.lt_of_lt_of_le hn (by decide))
  simp only [Go.bits, BitVec.ofInt_natCast, BitVec.toNat_xor, BitVec.toNat_ofNat, hm', hn']
  rw [IntWalk.i64_in ((m ^^^ n : Nat) : Int) (by omega)]
  omega

theorem rd_range (l : List Int) (hl : ∀ x ∈ l, 0 ≤ x ∧ x ≤ 255) (i : Int) : 0 ≤ rd l i ∧ rd l i ≤ 255 := by
  unfold rd
  rw [List.getD_eq_getElem?_getD]
  cases h : l[i.toNat]? with
  | none => simp
  | some v => exact hl v (List.mem_of_getElem? h)

theorem tmod_range (a n : Int) (ha : 0 ≤ a) (hn : 1 ≤ n) : 0 ≤ Int.tmod a n ∧ Int.tmod a n < n :=
  ⟨Int.tmod_nonneg n ha, Int.tmod_lt_of_pos a (by omega)⟩

theorem pick_ok (l : List Int) (hl : ∀ x ∈ l, 0 ≤ x ∧ x ≤ 255) (hn : l.length ≤ 2000) (k : Nat) (p n : Int) (hp : 0 ≤ p) (hp' : p ≤ 1000000) :
    ∃ v, spec_reader_pick.f (k + 1) l p n = some (v, p + 1) ∧ 0 ≤ v ∧ (1 ≤ n → v < n) := by
  have hw : wrap64 (p + 1) = p + 1 := IntWalk.wrap64_in _ (by omega)
  unfold spec_reader_pick.f
  rw [hw]
  by_cases h1 : n < 1
  · rw [if_pos h1]
    exact ⟨0, by simp [spec_reader_pick.j0], by omega, fun h => by omega⟩
  · rw [if_neg h1]
    by_cases h2 : l.length = 0
    · exact ⟨0, by simp [spec_reader_pick.j0, h2], by omega, fun h => by omega⟩
    · have hb : ((l.length : Int) == 0) = false := beq_eq_false_iff_ne.mpr (by omega)
      have hw1 : wrap64 (p + 1 - 1) = p := (IntWalk.wrap64_in (p + 1 - 1) (by omega)).trans (by omega)
      have hn0 : n ≠ 0 := by omega
      have hl0 : (l.length : Int) ≠ 0 := by omega
      simp only [spec_reader_pick.j0, hb, hw1, Bool.false_eq_true, if_false, hn0, hl0]
      by_cases h3 : p < (l.length : Int)
      · rw [if_pos h3, if_pos hp]
        have hr := rd_range l hl p
        rw [IntWalk.wrap64_in (rd l p) (by omega)]
        have ht := tmod_range (rd l p) n hr.1 (by omega)
        exact ⟨_, rfl, ht.1, fun _ => ht.2⟩
      · rw [if_neg h3]
        have hm1 := tmod_range p (l.length : Int) hp (by omega)
        rw [if_pos hm1.1, if_pos hm1.2]
        have hw7 : wrap64 (p * 7) = p * 7 := IntWalk.wrap64_in _ (by omega)
        have hw73 : wrap64 (p * 7 + 3) = p * 7 + 3 := IntWalk.wrap64_in _ (by omega)
        rw [hw7, hw73]
        have hm2 := tmod_range (p * 7 + 3) (l.length : Int) (by omega) (by omega)
        rw [if_pos hm2.1, if_pos hm2.2]
        have hr1 := rd_range l hl (Int.tmod p (l.length : Int))
        have hr2 := rd_range l hl (Int.tmod (p * 7 + 3) (l.length : Int))
        generalize rd l (Int.tmod p (l.length : Int)) = r1 at hr1 ⊢
        generalize rd l (Int.tmod (p * 7 + 3) (l.length : Int)) = r2 at hr2 ⊢
        have hq : 0 ≤ Int.tdiv p (l.length : Int) ∧ Int.tdiv p (l.length : Int) ≤ p := by
          rw [Int.tdiv_eq_ediv_of_nonneg hp]
          exact ⟨Int.ediv_nonneg hp (by omega), Int.ediv_le_self _ hp⟩
        generalize Int.tdiv p (l.length : Int) = q at hq ⊢
        simp (disch := omega) only [IntWalk.wrap64_in]
        have hX : 0 ≤ r1 * 131 + r2 * 1117 + p * 29 + q * 53 ∧ r1 * 131 + r2 * 1117 + p * 29 + q * 53 < 1073741824 := by omega
        generalize r1 * 131 + r2 * 1117 + p * 29 + q * 53 = X at hX ⊢
        have hd : 0 ≤ Int.tdiv X 64 ∧ Int.tdiv X 64 < 1073741824 := by
          rw [Int.tdiv_eq_ediv_of_nonneg hX.1]; omega
        rw [IntWalk.wrap64_in (Int.tdiv X 64) (by omega)]
        have hx := xor64_range X (Int.tdiv X 64) hX.1 hX.2 hd.1 hd.2
        have ht := tmod_range (Go.bits .xor .i64 X (Int.tdiv X 64)) n hx.1 (by omega)
        exact ⟨_, rfl, ht.1, fun _ => ht.2⟩

theorem reader_ok (l0 : List Int) (hw : ∀ x ∈ l0, (Lit.int .u8 x).wf = true) :
    ∃ l, spec_newReader.f l0 = some (l, 0) ∧ (∀ x ∈ l, 0 ≤ x ∧ x ≤ 255) ∧ l.length ≤ 2000 := by
  have hb : ∀ x ∈ l0, 0 ≤ x ∧ x ≤ 255 := by
    intro x hx
    have h := hw x hx
    simp [Lit.wf, IntKind.min, IntKind.max, IntKind.signed, IntKind.bits] at h
    omega
  unfold spec_newReader.f
  by_cases h : (l0.length : Int) > 2000
  · rw [if_pos h, if_pos (by omega)]
    exact ⟨_, rfl, fun x hx => hb x (List.mem_of_mem_take hx), by rw [List.length_take]; omega⟩
  · rw [if_neg h]
    exact ⟨_, rfl, hb, by omega⟩

theorem one_ok (l : List Int) (hl : ∀ x ∈ l, 0 ≤ x ∧ x ≤ 255) (hn : l.length ≤ 2000) (k : Nat) (p : Int) (xs : List Int) (hp : 0 ≤ p) (hp' : p ≤ 1000000) (hx : 1 ≤ xs.length) :
    ∃ v, spec_reader_one.f (k + 1) l p xs = some (v, p + 1) ∧ v ∈ xs := by
  obtain ⟨v, hv, h0, h1⟩ := pick_ok l hl hn k p (xs.length : Int) hp hp'
  have h2 := h1 (by omega)
  unfold spec_reader_one.f
  rw [hv]
  simp only [Option.bind_some]
  rw [if_pos h0, if_pos h2]
  refine ⟨_, rfl, ?_⟩
  unfold rd
  have h3 : v.toNat < xs.length := by omega
  rw [List.getD_eq_getElem?_getD, List.getElem?_eq_getElem h3]
  exact List.getElem_mem h3

theorem someBytes_end (l : List Int) (hb : ∀ x ∈ l, 0 ≤ x ∧ x ≤ 255) (hn : l.length ≤ 2000) (most : Int) (k : Nat) (o : List Int) (n p : Int) (hp : 0 ≤ p) (hp' : p ≤ 900000) (ho : o.length ≤ 1000) (hx : ∀ x ∈ o, -1 ≤ x ∧ x ≤ 256) :
    ∃ o' p', spec_someBytes.j1 (k + 2) most o n false l p = some (o', p') ∧ o'.length ≤ o.length + 17 ∧ (∀ x ∈ o', -1 ≤ x ∧ x ≤ 256) ∧ p ≤ p' ∧ p' ≤ p + 1 := by
  obtain ⟨v, hv, h0, h1⟩ := pick_ok l hb hn k p 30 hp (by omega)
  simp only [spec_someBytes.j1, Bool.false_eq_true, if_false, hv, Option.bind_some]
  have happ : ∀ y : List Int, (∀ x ∈ y, -1 ≤ x ∧ x ≤ 256) → ∀ x ∈ o ++ y, -1 ≤ x ∧ x ≤ 256 := fun y hy x hxx => by
    rcases List.mem_append.1 hxx with h | h
    · exact hx x h
    · exact hy x h
  by_cases e0 : v = 0
  · rw [if_pos e0, if_pos (by omega)]
    exact ⟨_, _, rfl, by simp, happ _ (by simp), by omega, by omega⟩
  · rw [if_neg e0]
    by_cases e1 : v = 1
    · rw [if_pos e1, if_pos (by omega)]
      exact ⟨_, _, rfl, by simp, happ _ (by simp), by omega, by omega⟩
    · rw [if_neg e1]
      by_cases e2 : v = 2
      · rw [if_pos e2, if_pos (by simp; omega)]
        exact ⟨_, _, rfl, by simp, happ _ (by simp), by omega, by omega⟩
      · rw [if_neg e2]
        exact ⟨_, _, rfl, by omega, hx, by omega, by omega⟩

theorem someBytes_l0 (l : List Int) (hb : ∀ x ∈ l, 0 ≤ x ∧ x ≤ 255) (hn : l.length ≤ 2000) (most : Int) : ∀ (n k : Nat) (o : List Int) (p : Int), 2 * n + 4 ≤ k → n ≤ 16 → 0 ≤ p → p ≤ 800000 - 3 * n → o.length + n ≤ 900 → (∀ x ∈ o, -1 ≤ x ∧ x ≤ 256) →
    ∃ o' p', spec_someBytes.l0 k most o (n : Int) l p = some (o', p') ∧ o'.length ≤ o.length + n + 17 ∧ (∀ x ∈ o', -1 ≤ x ∧ x ≤ 256) ∧ p ≤ p' ∧ p' ≤ p + 3 * n + 1 := by
  intro n
  induction n with
  | zero =>
    intro k o p hk _ hp hp' ho hx
    obtain ⟨k, rfl⟩ : ∃ m, k = m + 1 + 2 := ⟨k - 3, by omega⟩
    simp only [spec_someBytes.l0]
    rw [if_neg (by omega)]
    obtain ⟨o', p', h1, h2, h3, h4, h5⟩ := someBytes_end l hb hn most k o ((0 : Nat) : Int) p hp (by omega) (by omega) hx
    exact ⟨o', p', h1, by omega, h3, h4, by omega⟩
  | succ n ih =>
    intro k o p hk hn16 hp hp' ho hx
    obtain ⟨k, rfl⟩ : ∃ m, k = m + 1 + 2 := ⟨k - 3, by omega⟩
    simp only [spec_someBytes.l0]
    rw [if_pos (by omega)]
    by_cases hm : (o.length : Int) < most
    · rw [decide_eq_true hm]
      obtain ⟨a, ha, ha0, ha1⟩ := pick_ok l hb hn k p 256 hp (by omega)
      obtain ⟨b, hb1, hb0, hb2⟩ := pick_ok l hb hn k (p + 1) 4 (by omega) (by omega)
      obtain ⟨c, hc, hmem⟩ := one_ok l hb hn k (p + 1 + 1) [a, 0, 192, 219, b, 255] (by omega) (by omega) (by simp)
      have hcr : -1 ≤ c ∧ c ≤ 256 := by
        have h1 := ha1 (by omega)
        have h2 := hb2 (by omega)
        simp only [List.mem_cons, List.not_mem_nil, or_false] at hmem
        omega
      simp only [spec_someBytes.j1, if_true, ha, hb1, hc, Option.bind_some]
      rw [if_pos (by omega), (IntWalk.wrap64_in (((n + 1 : Nat) : Int) - 1) (by omega)).trans (show ((n + 1 : Nat) : Int) - 1 = (n : Int) by omega)]
      obtain ⟨o', p', h1, h2, h3, h4, h5⟩ := ih (k + 1) (o ++ [c]) (p + 1 + 1 + 1) (by omega) (by omega) (by omega) (by omega) (by rw [List.length_append, List.length_singleton]; omega) (fun x hxx => by
        rcases List.mem_append.1 hxx with h | h
        · exact hx x h
        · rw [List.mem_singleton.1 h]; exact hcr)
      rw [List.length_append, List.length_singleton] at h2
      exact ⟨o', p', h1, by omega, h3, by omega, by omega⟩
    · rw [decide_eq_false hm]
      obtain ⟨o', p', h1, h2, h3, h4, h5⟩ := someBytes_end l hb hn most k o ((n + 1 : Nat) : Int) p hp (by omega) (by omega) hx
      exact ⟨o', p', h1, by omega, h3, h4, by omega⟩

theorem someBytes_ok (l : List Int) (hb : ∀ x ∈ l, 0 ≤ x ∧ x ≤ 255) (hn : l.length ≤ 2000) (most : Int) (k : Nat) (hk : 40 ≤ k) (p : Int) (hp : 0 ≤ p) (hp' : p ≤ 700000) :
    ∃ o' p', spec_someBytes.f k l p most = some (o', p') ∧ o'.length ≤ 33 ∧ (∀ x ∈ o', -1 ≤ x ∧ x ≤ 256) ∧ p ≤ p' ∧ p' ≤ p + 50 := by
  obtain ⟨k, rfl⟩ : ∃ m, k = m + 1 := ⟨k - 1, by omega⟩
  obtain ⟨v, hv, hmem⟩ := one_ok l hb hn k p [4, 6, 3, 8, 2, 1, 0, 16] hp (by omega) (by simp)
  have hvr : 0 ≤ v ∧ v ≤ 16 := by
    simp only [List.mem_cons, List.not_mem_nil, or_false] at hmem
    omega
  obtain ⟨m, rfl⟩ := Int.eq_ofNat_of_zero_le hvr.1
  unfold spec_someBytes.f
  simp only [hv, Option.bind_some]
  obtain ⟨o', p', h1, h2, h3, h4, h5⟩ := someBytes_l0 l hb hn most m (k + 1) [] (p + 1) (by omega) (by omega) (by omega) (by omega) (by simp; omega) (by simp)
  simp only [List.length_nil] at h2
  exact ⟨o', p', h1, by omega, h3, by omega, by omega⟩

theorem rd_nat (l : List Int) (i : Nat) (h : i < l.length) : rd l (i : Int) = l[i] := by
  unfold rd
  rw [Int.toNat_natCast, List.getD_eq_getElem?_getD, List.getElem?_eq_getElem h]
  rfl

theorem step_nat (i : Nat) (h : i < 4611686018427387904) : wrap64 ((i : Int) + 1) = ((i + 1 : Nat) : Int) := by
  rw [IntWalk.wrap64_in ((i : Int) + 1) (by omega)]
  rfl

/-- Numbers of one byte. -/
def okB (l : List Int) : Bool := l.all fun x => decide (0 ≤ x ∧ x ≤ 255)

theorem okB_iff (l : List Int) : okB l = true ↔ ∀ x ∈ l, 0 ≤ x ∧ x ≤ 255 := by simp [okB]

theorem inRange_val (x a b : Int) : spec_inRange.f x a b = some (decide (a ≤ x ∧ x ≤ b)) := by
  unfold spec_inRange.f
  by_cases h : a ≤ x
  · rw [if_pos h]; simp [h]
  · rw [if_neg h]; simp [h]

theorem validBytes_l0 (l : List Int) (m : Int) (hl : l.length ≤ 2000000) : ∀ (d k i : Nat), i + d = l.length → d < k → spec_validBytes.l0 k l m (i : Int) = some (okB (l.drop i) && decide ((l.length : Int) ≤ m)) := by
  intro d
  induction d with
  | zero =>
    intro k i hi hk
    obtain ⟨k, rfl⟩ : ∃ m, k = m + 1 := ⟨k - 1, by omega⟩
    simp only [spec_validBytes.l0]
    rw [if_neg (by omega), List.drop_eq_nil_of_le (by omega)]
    simp [okB]
  | succ d ih =>
    intro k i hi hk
    obtain ⟨k, rfl⟩ : ∃ m, k = m + 1 := ⟨k - 1, by omega⟩
    simp only [spec_validBytes.l0]
    rw [if_pos (by omega), if_pos (by omega), step_nat i (by omega), rd_nat l i (by omega), inRange_val]
    rw [List.drop_eq_getElem_cons (by omega : i < l.length)]
    simp only [Option.bind_some]
    by_cases e : 0 ≤ l[i]'(by omega) ∧ l[i]'(by omega) ≤ 255
    · rw [if_pos (decide_eq_true e), ih k (i + 1) (by omega) (by omega)]
      have h : okB (l[i]'(by omega) :: l.drop (i + 1)) = okB (l.drop (i + 1)) := by
        unfold okB
        rw [List.all_cons, decide_eq_true e, Bool.true_and]
      rw [h]
    · rw [if_neg (by simpa using e)]
      have h : okB (l[i]'(by omega) :: l.drop (i + 1)) = false := by
        unfold okB
        rw [List.all_cons, decide_eq_false e, Bool.false_and]
      rw [h, Bool.false_and]

theorem validBytes_ok (l : List Int) (m : Int) (hl : l.length ≤ 2000000) (k : Nat) (hk : l.length < k) : spec_validBytes.f k l m = some (okB l && decide ((l.length : Int) ≤ m)) := by
  unfold spec_validBytes.f
  exact validBytes_l0 l m hl l.length k 0 (by omega) hk

theorem bytesAlone_val (l : List Int) : impl_bytesAlone.f l = some (okB l) := by
  unfold impl_bytesAlone.f okB
  congr 1
  induction l with
  | nil => rfl
  | cons x l ih =>
    rw [List.any_cons, List.all_cons, ← ih]
    have h : (decide (x < 0) || decide (x > 255)) = !(decide (0 ≤ x ∧ x ≤ 255)) := by
      by_cases h1 : x < 0
      · simp [h1]
      · by_cases h2 : x > 255
        · simp [h2]
        · simp [h1, h2]; omega
    rw [h, Bool.not_or, Bool.not_not]

theorem bytesOk_val (l : List Int) : impl_bytesOk.f l = some (okB l && decide (l.length ≤ 16)) := by
  unfold impl_bytesOk.f
  rw [bytesAlone_val]
  simp only [Option.bind_some]
  by_cases h : l.length ≤ 16
  · rw [if_pos (by omega)]; simp [h]
  · rw [if_neg (by omega)]; simp [h]

/-- The two running sums. -/
def sums : List Int → Int → Int → Int × Int
  | [], a, b => (a, b)
  | x :: t, a, b => sums t (a + x) (b + (a + x))

theorem implSums_l0 (l : List Int) (hl : l.length ≤ 16) (hb : ∀ x ∈ l, 0 ≤ x ∧ x ≤ 255) : ∀ (d k i : Nat) (a b : Int), i + d = l.length → d < k → 0 ≤ a → a ≤ 255 * i → 0 ≤ b → b ≤ 4080 * i →
    impl_TwoSums.l0 k a b l (l.length : Int) (i : Int) = some ((sums (l.drop i) a b).1 % 255, (sums (l.drop i) a b).2 % 255) := by
  intro d
  induction d with
  | zero =>
    intro k i a b hi hk ha ha' hb0 hb'
    obtain ⟨k, rfl⟩ : ∃ m, k = m + 1 := ⟨k - 1, by omega⟩
    simp only [impl_TwoSums.l0]
    rw [if_neg (by omega), List.drop_eq_nil_of_le (by omega)]
    simp only [sums]
    rw [Int.tmod_eq_emod_of_nonneg ha, Int.tmod_eq_emod_of_nonneg hb0]
  | succ d ih =>
    intro k i a b hi hk ha ha' hb0 hb'
    obtain ⟨k, rfl⟩ : ∃ m, k = m + 1 := ⟨k - 1, by omega⟩
    simp only [impl_TwoSums.l0]
    have hx := hb (l[i]'(by omega)) (List.getElem_mem _)
    rw [if_pos (by omega), if_pos (by omega), if_pos (by omega), step_nat i (by omega), rd_nat l i (by omega)]
    rw [List.drop_eq_getElem_cons (by omega : i < l.length)]
    simp only [sums]
    generalize l[i]'(by omega) = x at hx ⊢
    rw [IntWalk.wrap64_in (a + x) (by omega), IntWalk.wrap64_in (b + (a + x)) (by omega)]
    exact ih k (i + 1) (a + x) (b + (a + x)) (by omega) (by omega) (by omega) (by omega) (by omega) (by omega)

theorem specSums_l0 (l : List Int) (hl : l.length ≤ 16) (hb : ∀ x ∈ l, 0 ≤ x ∧ x ≤ 255) : ∀ (d k i : Nat) (a b a' b' : Int), i + d = l.length → d < k → a' = a % 255 → b' = b % 255 →
    spec_TwoSums.l0 k l a' b' (i : Int) = some ((sums (l.drop i) a b).1 % 255, (sums (l.drop i) a b).2 % 255) := by
  intro d
  induction d with
  | zero =>
    intro k i a b a' b' hi hk ha hb'
    obtain ⟨k, rfl⟩ : ∃ m, k = m + 1 := ⟨k - 1, by omega⟩
    simp only [spec_TwoSums.l0]
    rw [if_neg (by omega), List.drop_eq_nil_of_le (by omega)]
    simp only [sums]
    rw [ha, hb']
  | succ d ih =>
    intro k i a b a' b' hi hk ha hb'
    obtain ⟨k, rfl⟩ : ∃ m, k = m + 1 := ⟨k - 1, by omega⟩
    simp only [spec_TwoSums.l0]
    have hx := hb (l[i]'(by omega)) (List.getElem_mem _)
    rw [if_pos (by omega), if_pos (by omega), step_nat i (by omega), rd_nat l i (by omega)]
    rw [List.drop_eq_getElem_cons (by omega : i < l.length)]
    simp only [sums]
    generalize l[i]'(by omega) = x at hx ⊢
    rw [IntWalk.wrap64_in (a' + x) (by omega), Int.tmod_eq_emod_of_nonneg (by omega : 0 ≤ a' + x), IntWalk.wrap64_in (b' + (a' + x) % 255) (by omega), Int.tmod_eq_emod_of_nonneg (by omega : 0 ≤ b' + (a' + x) % 255)]
    exact ih k (i + 1) (a + x) (b + (a + x)) _ _ (by omega) (by omega) (by omega) (by omega)

/-- What both return. -/
def twoSums (l : List Int) : Int × Int := if okB l = true ∧ l.length ≤ 16 then ((sums l 0 0).1 % 255, (sums l 0 0).2 % 255) else (-1, -1)

theorem implTwoSums_ok (l : List Int) (k : Nat) (hk : l.length < k) : impl_TwoSums.f k l = some (twoSums l) := by
  unfold impl_TwoSums.f twoSums
  rw [bytesOk_val]
  simp only [Option.bind_some, Bool.and_eq_true, decide_eq_true_eq]
  by_cases h : okB l = true ∧ l.length ≤ 16
  · rw [if_pos h, if_pos h]
    exact implSums_l0 l h.2 ((okB_iff l).1 h.1) l.length k 0 0 0 (by omega) hk (by omega) (by omega) (by omega) (by omega)
  · rw [if_neg h, if_neg h]

theorem specTwoSums_ok (l : List Int) (hl : l.length ≤ 2000000) (k : Nat) (hk : l.length < k) : spec_TwoSums.f k l = some (twoSums l) := by
  unfold spec_TwoSums.f twoSums
  rw [validBytes_ok l 16 hl k hk]
  simp only [Option.bind_some, Bool.and_eq_true, decide_eq_true_eq]
  by_cases h : okB l = true ∧ l.length ≤ 16
  · rw [if_pos ⟨h.1, by omega⟩, if_pos h]
    exact specSums_l0 l h.2 ((okB_iff l).1 h.1) l.length k 0 0 0 0 0 (by omega) hk rfl rfl
  · rw [if_neg (fun e => h ⟨e.1, by omega⟩), if_neg h]


theorem sums_append : ∀ (p q : List Int) (a b : Int), sums (p ++ q) a b = sums q (sums p a b).1 (sums p a b).2
  | [], _, _, _ => rfl
  | x :: p, q, a, b => by
    simp only [List.cons_append, sums]
    exact sums_append p q _ _

theorem sums_shift : ∀ (t : List Int) (a b c : Int), sums t a (b + c) = ((sums t a b).1, (sums t a b).2 + c)
  | [], _, _, _ => rfl
  | x :: t, a, b, c => by
    simp only [sums]
    rw [show b + c + (a + x) = b + (a + x) + c by omega]
    exact sums_shift t _ _ c

theorem sums_swap (p t : List Int) (x y : Int) : sums (p ++ y :: x :: t) 0 0 = ((sums (p ++ x :: y :: t) 0 0).1, (sums (p ++ x :: y :: t) 0 0).2 + (y - x)) := by
  rw [sums_append, sums_append]
  simp only [sums]
  rw [← sums_shift]
  generalize (sums p 0 0).1 = a
  generalize (sums p 0 0).2 = b
  rw [show a + y + x = a + x + y by omega, show b + (a + y) + (a + x + y) = b + (a + x) + (a + x + y) + (y - x) by omega]

theorem split_at (l : List Int) (i : Nat) (h : i + 1 < l.length) : ∃ p x y t, l = p ++ x :: y :: t ∧ p.length = i := by
  refine ⟨l.take i, l[i]'(by omega), l[i + 1]'h, l.drop (i + 2), ?_, by rw [List.length_take]; omega⟩
  rw [← List.drop_eq_getElem_cons h, ← List.drop_eq_getElem_cons (by omega : i < l.length), List.take_append_drop]

theorem okB_swap (p t : List Int) (x y : Int) (h : okB (p ++ x :: y :: t) = true) : okB (p ++ y :: x :: t) = true := by
  rw [okB_iff] at h ⊢
  intro z hz
  refine h z ?_
  simp only [List.mem_append, List.mem_cons] at hz ⊢
  rcases hz with hz | hz | hz | hz
  · exact .inl hz
  · exact .inr (.inr (.inl hz))
  · exact .inr (.inl hz)
  · exact .inr (.inr (.inr hz))

theorem rd_mid (p t : List Int) (x y : Int) : rd (p ++ x :: y :: t) (p.length : Int) = x := by
  rw [rd_nat _ p.length (by simp), List.getElem_append_right (Nat.le_refl _)]
  simp

theorem rd_mid1 (p t : List Int) (x y : Int) : rd (p ++ x :: y :: t) ((p.length + 1 : Nat) : Int) = y := by
  rw [rd_nat _ (p.length + 1) (by simp), List.getElem_append_right (by omega)]
  simp

theorem set_mid (p t : List Int) (x y : Int) : ((p ++ x :: y :: t).set p.length y).set (p.length + 1) x = p ++ y :: x :: t := by
  rw [List.set_append_right _ _ (by omega), List.set_append_right _ _ (by omega)]
  simp

theorem cmp_swap (s x y : Int) : (((s + (y - x)) % 255 == s % 255) != (x % 255 == y % 255)) = false := by
  by_cases e : x % 255 = y % 255
  · have e2 : (s + (y - x)) % 255 = s % 255 := by omega
    rw [beq_iff_eq.mpr e2, beq_iff_eq.mpr e]
    rfl
  · have e2 : ¬ (s + (y - x)) % 255 = s % 255 := by omega
    rw [beq_eq_false_iff_ne.mpr e2, beq_eq_false_iff_ne.mpr e]
    rfl

theorem step_l0 (p t : List Int) (x y : Int) (hok : okB (p ++ x :: y :: t) = true) (hl : (p ++ x :: y :: t).length ≤ 16) (k : Nat) (hk : 20 ≤ k) (a b : Int) (ha : a = (sums (p ++ x :: y :: t) 0 0).1 % 255) (hb : b = (sums (p ++ x :: y :: t) 0 0).2 % 255) :
    laws_FnTwoSums.l0 (k + 1) (p ++ x :: y :: t) a b (p.length : Int) = laws_FnTwoSums.l0 k (p ++ x :: y :: t) a b ((p.length + 1 : Nat) : Int) := by
  have hlen : (p ++ x :: y :: t).length = p.length + (t.length + 2) := by simp
  have hlen2 : (p ++ y :: x :: t).length = p.length + (t.length + 2) := by simp
  have hok' : okB (p ++ y :: x :: t) = true := okB_swap p t x y hok
  have hbb := (okB_iff _).1 hok'
  have hxb := hbb x (by simp)
  have hyb := hbb y (by simp)
  have hv' : twoSums (p ++ y :: x :: t) = (a, ((sums (p ++ x :: y :: t) 0 0).2 + (y - x)) % 255) := by
    unfold twoSums
    rw [if_pos ⟨hok', by omega⟩, sums_swap, ha]
  have him := implTwoSums_ok (p ++ y :: x :: t) k (by omega)
  rw [hv'] at him
  have hx := rd_mid p t x y
  have hy := rd_mid1 p t x y
  have hs := set_mid p t x y
  have hl' : p.length + (t.length + 2) ≤ 16 := by omega
  generalize hL : p ++ x :: y :: t = l at hx hy hs hlen hb ⊢
  rw [laws_FnTwoSums.l0]
  rw [step_nat p.length (by omega), if_pos (by omega), Option.bind_some, if_pos (by rw [List.length_nil]; omega), Option.bind_some, List.nil_append, if_pos (by omega), if_pos (by omega), if_pos (by omega), if_pos (by omega), if_pos (by omega)]
  rw [hx, hy, Int.toNat_natCast, Int.toNat_natCast, hs, him]
  simp only [Option.bind_some, if_true]
  rw [Int.tmod_eq_emod_of_nonneg hxb.1, Int.tmod_eq_emod_of_nonneg hyb.1]
  subst hL
  rw [hb, cmp_swap]
  simp only [Bool.false_eq_true, if_false]

theorem law_l0 (l : List Int) (hok : okB l = true) (hl : l.length ≤ 16) (a b : Int) (ha : a = (sums l 0 0).1 % 255) (hb : b = (sums l 0 0).2 % 255) : ∀ (d k i : Nat), i + d = l.length → d + 20 ≤ k → laws_FnTwoSums.l0 k l a b (i : Int) = some true := by
  have hend : ∀ (k : Nat) (i : Nat), ¬ (i + 1 < l.length) → i ≤ 16 → laws_FnTwoSums.l0 (k + 1) l a b (i : Int) = some true := by
    intro k i h h16
    rw [laws_FnTwoSums.l0, step_nat i (by omega), if_neg (by omega), if_pos (by omega), decide_eq_true (by omega)]
  intro d
  induction d with
  | zero =>
    intro k i hi hk
    obtain ⟨k, rfl⟩ : ∃ m, k = m + 1 := ⟨k - 1, by omega⟩
    exact hend k i (by omega) (by omega)
  | succ d ih =>
    intro k i hi hk
    obtain ⟨k, rfl⟩ : ∃ m, k = m + 1 := ⟨k - 1, by omega⟩
    by_cases h1 : i + 1 < l.length
    · obtain ⟨p, x, y, t, hlp, hp⟩ := split_at l i h1
      have h2 := step_l0 p t x y (by rw [← hlp]; exact hok) (by rw [← hlp]; exact hl) k (by omega) a b (by rw [← hlp]; exact ha) (by rw [← hlp]; exact hb)
      rw [← hlp, hp] at h2
      rw [h2]
      exact ih k (i + 1) (by omega) (by omega)
    · exact hend k i h1 (by omega)

theorem FnTwoSums : laws_FnTwoSums.Pure := by
  intro l0 _ _ hw
  by_cases hc : (l0.length : Int) > 1048576
  · exact ⟨0, by unfold laws_FnTwoSums.f; rw [if_pos hc]⟩
  · refine ⟨100, ?_⟩
    obtain ⟨b, hr, hb, hn⟩ := reader_ok l0 hw
    obtain ⟨l, p', hs, hlen, _, _, _⟩ := someBytes_ok b hb hn 16 100 (by omega) 0 (by omega) (by omega)
    unfold laws_FnTwoSums.f spec_DrawTwoSums.f
    rw [if_neg hc]
    simp only [hr, Option.bind_some, hs, implTwoSums_ok l 100 (by omega), specTwoSums_ok l (by omega) 100 (by omega), if_true]
    by_cases h : okB l = true ∧ l.length ≤ 16
    · have hv : twoSums l = ((sums l 0 0).1 % 255, (sums l 0 0).2 % 255) := by unfold twoSums; rw [if_pos h]
      have h1 : (twoSums l).1 = (sums l 0 0).1 % 255 := by rw [hv]
      have h2 : (twoSums l).2 = (sums l 0 0).2 % 255 := by rw [hv]
      have h0 : ¬ (twoSums l).1 < 0 := by rw [h1]; omega
      rw [decide_eq_false h0]
      rw [show (100 : Nat) = 99 + 1 from rfl, laws_FnTwoSums.j0]
      simp only [Bool.false_eq_true, if_false]
      exact law_l0 l h.1 h.2 _ _ h1 h2 l.length 99 0 (by omega) (by omega)
    · have hv : twoSums l = (-1, -1) := by unfold twoSums; rw [if_neg h]
      rw [hv]
      simp [laws_FnTwoSums.j0]

end Go.Proofs.Ytfklnhjipahonaa.Pure
