/- Buckets let through what they have: FnPassesOf returns true for every list of bytes. Conditions: none. -/
import Derived.Test.YtdppkdcfocaemaaHFnPassesOfx3
namespace Go.Proofs.Ytdppkdcfocaemaa.Pure
open Go.RowKit Go.Proofs.Ytdppkdcfocaemaa.HFnPassesOf Go.Proofs.YtdppkdcfocaemaaW.PrintWords Go.Proofs.YtdppkdcfocaemaaW.PrintLast
open Go
set_option linter.unusedVariables false
set_option linter.unusedSimpArgs false

theorem xor64_range (a b : Int) (ha : 0 ≤ a) (ha' : a < 1073741824) (hb : 0 ≤ b) (hb' : b < 1073741824) :
    0 ≤ Go.bits .xor .i64 a b ∧ Go.bits .xor .i64 a b < 1073741824 := by
  obtain ⟨m, rfl⟩ := Int.eq_ofNat_of_zero_le ha
  obtain ⟨n, rfl⟩ := Int.eq_ofNat_of_zero_le hb
  have hm : m < 2 ^ 30 := by omega
  have hn : n < 2 ^ 30 := by omega
  have hx : m ^^^ n < 2 ^ 30 := Nat.xor_lt_two_pow hm hn
  have hm' : m % 2 ^ IntKind.i64.bits = m := Nat.mod_eq_of_lt (Nat.lt_of_lt_of_le hm (by decide))
  have hn' : n % 2 ^ IntKind.i64.bits = n := Nat.mod_eq_of_lt (Nat.lt_of_lt_of_le hn (by decide))
  simp only [Go.bits, BitVec.ofInt_natCast, BitVec.toNat_xor, BitVec.toNat_ofNat, hm', hn']
  rw [IntWalk.i64_in ((m ^^^ n : Nat) : Int) (by omega)]
  omega

theorem rd_range (l : List Int) (hl : ∀ x ∈ l, 0 ≤ x ∧ x ≤ 255) (i : Int) : 0 ≤ rd l i ∧ rd l i ≤ 255 := by
  unfold rd
  rw [List.getD_eq_getElem?_getD]
  cases h : l[i.toNat]? with
  | none => simp
  | some v => exact hl v (List.mem_of_getElem? h)

theorem tmod_range (a n : Int) (ha : 0 ≤ a) (hn : 1 ≤ n) : 0 ≤ Int.tmod a n ∧ Int.tmod a n < n :=
  ⟨Int.tmod_nonneg n ha, Int.tmod_lt_of_pos a (by omega)⟩

theorem pick_ok (l : List Int) (hl : ∀ x ∈ l, 0 ≤ x ∧ x ≤ 255) (hn : l.length ≤ 2000) (k : Nat) (p n : Int) (hp : 0 ≤ p) (hp' : p ≤ 1000000) :
    ∃ v, spec_reader_pick.f (k + 1) l p n = some (v, p + 1) ∧ 0 ≤ v ∧ (1 ≤ n → v < n) := by
  have hw : wrap64 (p + 1) = p + 1 := IntWalk.wrap64_in _ (by omega)
  unfold spec_reader_pick.f
  rw [hw]
  by_cases h1 : n < 1
  · rw [if_pos h1]
    exact ⟨0, by simp [spec_reader_pick.j0], by omega, fun h => by omega⟩
  · rw [if_neg h1]
    by_cases h2 : l.length = 0
    · exact ⟨0, by simp [spec_reader_pick.j0, h2], by omega, fun h => by omega⟩
    · have hb : ((l.length : Int) == 0) = false := beq_eq_false_iff_ne.mpr (by omega)
      have hw1 : wrap64 (p + 1 - 1) = p := (IntWalk.wrap64_in (p + 1 - 1) (by omega)).trans (by omega)
      have hn0 : n ≠ 0 := by omega
      have hl0 : (l.length : Int) ≠ 0 := by omega
      simp only [spec_reader_pick.j0, hb, hw1, Bool.false_eq_true, if_false, hn0, hl0]
      by_cases h3 : p < (l.length : Int)
      · rw [if_pos h3, if_pos hp]
        have hr := rd_range l hl p
        rw [IntWalk.wrap64_in (rd l p) (by omega)]
        have ht := tmod_range (rd l p) n hr.1 (by omega)
        exact ⟨_, rfl, ht.1, fun _ => ht.2⟩
      · rw [if_neg h3]
        have hm1 := tmod_range p (l.length : Int) hp (by omega)
        rw [if_pos hm1.1, if_pos hm1.2]
        have hw7 : wrap64 (p * 7) = p * 7 := IntWalk.wrap64_in _ (by omega)
        have hw73 : wrap64 (p * 7 + 3) = p * 7 + 3 := IntWalk.wrap64_in _ (by omega)
        rw [hw7, hw73]
        have hm2 := tmod_range (p * 7 + 3) (l.length : Int) (by omega) (by omega)
        rw [if_pos hm2.1, if_pos hm2.2]
        have hr1 := rd_range l hl (Int.tmod p (l.length : Int))
        have hr2 := rd_range l hl (Int.tmod (p * 7 + 3) (l.length : Int))
        generalize rd l (Int.tmod p (l.length : Int)) = r1 at hr1 ⊢
        generalize rd l (Int.tmod (p * 7 + 3) (l.length : Int)) = r2 at hr2 ⊢
        have hq : 0 ≤ Int.tdiv p (l.length : Int) ∧ Int.tdiv p (l.length : Int) ≤ p := by
          rw [Int.tdiv_eq_ediv_of_nonneg hp]
          exact ⟨Int.ediv_nonneg hp (by omega), Int.ediv_le_self _ hp⟩
        generalize Int.tdiv p (l.length : Int) = q at hq ⊢
        simp (disch := omega) only [IntWalk.wrap64_in]
        have hX : 0 ≤ r1 * 131 + r2 * 1117 + p * 29 + q * 53 ∧ r1 * 131 + r2 * 1117 + p * 29 + q * 53 < 1073741824 := by omega
        generalize r1 * 131 + r2 * 1117 + p * 29 + q * 53 = X at hX ⊢
        have hd : 0 ≤ Int.tdiv X 64 ∧ Int.tdiv X 64 < 1073741824 := by
          rw [Int.tdiv_eq_ediv_of_nonneg hX.1]; omega
        rw [IntWalk.wrap64_in (Int.tdiv X 64) (by omega)]
        have hx := xor64_range X (Int.tdiv X 64) hX.1 hX.2 hd.1 hd.2
        have ht := tmod_range (Go.bits .xor .i64 X (Int.tdiv X 64)) n hx.1 (by omega)
        exact ⟨_, rfl, ht.1, fun _ => ht.2⟩

theorem reader_ok (l0 : List Int) (hw : ∀ x ∈ l0, (Lit.int .u8 x).wf = true) :
    ∃ l, spec_newReader.f l0 = some (l, 0) ∧ (∀ x ∈ l, 0 ≤ x ∧ x ≤ 255) ∧ l.length ≤ 2000 := by
  have hb : ∀ x ∈ l0, 0 ≤ x ∧ x ≤ 255 := by
    intro x hx
    have h := hw x hx
    simp [Lit.wf, IntKind.min, IntKind.max, IntKind.signed, IntKind.bits] at h
    omega
  unfold spec_newReader.f
  by_cases h : (l0.length : Int) > 2000
  · rw [if_pos h, if_pos (by omega)]
    exact ⟨_, rfl, fun x hx => hb x (List.mem_of_mem_take hx), by rw [List.length_take]; omega⟩
  · rw [if_neg h]
    exact ⟨_, rfl, hb, by omega⟩

theorem one_ok (l : List Int) (hl : ∀ x ∈ l, 0 ≤ x ∧ x ≤ 255) (hn : l.length ≤ 2000) (k : Nat) (p : Int) (xs : List Int) (hp : 0 ≤ p) (hp' : p ≤ 1000000) (hx : 1 ≤ xs.length) :
    ∃ v, spec_reader_one.f (k + 1) l p xs = some (v, p + 1) ∧ v ∈ xs := by
  obtain ⟨v, hv, h0, h1⟩ := pick_ok l hl hn k p (xs.length : Int) hp hp'
  have h2 := h1 (by omega)
  unfold spec_reader_one.f
  rw [hv]
  simp only [Option.bind_some]
  rw [if_pos h0, if_pos h2]
  refine ⟨_, rfl, ?_⟩
  unfold rd
  have h3 : v.toNat < xs.length := by omega
  rw [List.getD_eq_getElem?_getD, List.getElem?_eq_getElem h3]
  exact List.getElem_mem h3

theorem someLoads_l0 (l : List Int) (hb : ∀ x ∈ l, 0 ≤ x ∧ x ≤ 255) (hn : l.length ≤ 2000) : ∀ (d k n : Nat) (o : List Int) (p : Int), d = n - o.length → d + 3 ≤ k → n ≤ 16 → o.length ≤ 16 → 0 ≤ p → p ≤ 700000 - 4 * d → (∀ x ∈ o, -1 ≤ x ∧ x ≤ 31) →
    ∃ o' p', spec_someLoads.l0 k o (n : Int) l p = some (o', p') ∧ o'.length ≤ 33 ∧ (∀ x ∈ o', -1 ≤ x ∧ x ≤ 31) ∧ p ≤ p' ∧ p' ≤ p + 4 * d + 1 := by
  intro d
  induction d with
  | zero =>
    intro k n o p hd hk hn16 ho hp hp' hx
    obtain ⟨k, rfl⟩ : ∃ m, k = m + 1 + 1 := ⟨k - 2, by omega⟩
    obtain ⟨v, hv, h0, h1⟩ := pick_ok l hb hn k p 30 hp (by omega)
    simp only [spec_someLoads.l0]
    rw [if_neg (by omega), hv]
    simp only [Option.bind_some]
    have happ : ∀ y : List Int, (∀ x ∈ y, -1 ≤ x ∧ x ≤ 31) → ∀ x ∈ o ++ y, -1 ≤ x ∧ x ≤ 31 := fun y hy x hxx => by
      rcases List.mem_append.1 hxx with h | h
      · exact hx x h
      · exact hy x h
    by_cases e0 : v = 0
    · rw [if_pos e0, if_pos (by omega)]
      exact ⟨_, _, rfl, by simp; omega, happ _ (by simp), by omega, by omega⟩
    · rw [if_neg e0]
      by_cases e1 : v = 1
      · rw [if_pos e1, if_pos (by omega)]
        exact ⟨_, _, rfl, by simp; omega, happ _ (by simp), by omega, by omega⟩
      · rw [if_neg e1]
        by_cases e2 : v = 2
        · rw [if_pos e2, if_pos (by simp; omega)]
          exact ⟨_, _, rfl, by simp; omega, happ _ (by simp), by omega, by omega⟩
        · rw [if_neg e2]
          exact ⟨_, _, rfl, by omega, hx, by omega, by omega⟩
  | succ d ih =>
    intro k n o p hd hk hn16 ho hp hp' hx
    obtain ⟨k, rfl⟩ : ∃ m, k = m + 1 + 1 := ⟨k - 2, by omega⟩
    obtain ⟨a, ha, ha0, ha1⟩ := pick_ok l hb hn k p 31 hp (by omega)
    obtain ⟨b, hb1, hb0, hb2⟩ := pick_ok l hb hn k (p + 1) 6 (by omega) (by omega)
    obtain ⟨c, hc, hc0, hc1⟩ := pick_ok l hb hn k (p + 1 + 1) 12 (by omega) (by omega)
    obtain ⟨e, he, hmem⟩ := one_ok l hb hn k (p + 1 + 1 + 1) [a, b, 0, c] (by omega) (by omega) (by simp)
    have her : -1 ≤ e ∧ e ≤ 31 := by
      have h1 := ha1 (by omega)
      have h2 := hb2 (by omega)
      have h3 := hc1 (by omega)
      simp only [List.mem_cons, List.not_mem_nil, or_false] at hmem
      omega
    simp only [spec_someLoads.l0]
    rw [if_pos (by omega)]
    simp only [ha, hb1, hc, he, Option.bind_some]
    rw [if_pos (by omega)]
    obtain ⟨o', p', h1, h2, h3, h4, h5⟩ := ih (k + 1) n (o ++ [e]) (p + 1 + 1 + 1 + 1) (by rw [List.length_append, List.length_singleton]; omega) (by omega) hn16 (by rw [List.length_append, List.length_singleton]; omega) (by omega) (by omega) (fun x hxx => by
      rcases List.mem_append.1 hxx with h | h
      · exact hx x h
      · rw [List.mem_singleton.1 h]; exact her)
    exact ⟨o', p', h1, h2, h3, by omega, by omega⟩

theorem someLoads_ok (l : List Int) (hb : ∀ x ∈ l, 0 ≤ x ∧ x ≤ 255) (hn : l.length ≤ 2000) (k : Nat) (hk : 30 ≤ k) (p : Int) (hp : 0 ≤ p) (hp' : p ≤ 600000) :
    ∃ o' p', spec_someLoads.f k l p = some (o', p') ∧ o'.length ≤ 33 ∧ (∀ x ∈ o', -1 ≤ x ∧ x ≤ 31) ∧ p ≤ p' ∧ p' ≤ p + 100 := by
  obtain ⟨k, rfl⟩ : ∃ m, k = m + 1 := ⟨k - 1, by omega⟩
  obtain ⟨v, hv, hmem⟩ := one_ok l hb hn k p [5, 8, 4, 3, 12, 2, 1, 0, 16] hp (by omega) (by simp)
  have hvr : 0 ≤ v ∧ v ≤ 16 := by
    simp only [List.mem_cons, List.not_mem_nil, or_false] at hmem
    omega
  obtain ⟨m, rfl⟩ := Int.eq_ofNat_of_zero_le hvr.1
  unfold spec_someLoads.f
  simp only [hv, Option.bind_some]
  obtain ⟨o', p', h1, h2, h3, h4, h5⟩ := someLoads_l0 l hb hn m (k + 1) m [] (p + 1) (by simp) (by omega) (by omega) (by simp) (by omega) (by omega) (by simp)
  exact ⟨o', p', h1, h2, h3, by omega, by omega⟩

theorem rd_nat (l : List Int) (i : Nat) (h : i < l.length) : rd l (i : Int) = l[i] := by
  unfold rd
  rw [Int.toNat_natCast, List.getD_eq_getElem?_getD, List.getElem?_eq_getElem h]
  rfl

theorem step_nat (i : Nat) (h : i < 4611686018427387904) : wrap64 ((i : Int) + 1) = ((i + 1 : Nat) : Int) := by
  rw [IntWalk.wrap64_in ((i : Int) + 1) (by omega)]
  rfl

theorem rdOf_nat (l : List Bool) (i : Nat) (h : i < l.length) : rdOf false l (i : Int) = l[i] := by
  unfold rdOf
  rw [Int.toNat_natCast, List.getD_eq_getElem?_getD, List.getElem?_eq_getElem h]
  rfl

theorem equalBools_l0 (a : List Bool) (hl : a.length ≤ 2000000) : ∀ (d k i : Nat), i + d = a.length → d < k → laws_equalBools.l0 k a a (i : Int) = some true := by
  intro d
  induction d with
  | zero =>
    intro k i hi hk
    obtain ⟨k, rfl⟩ : ∃ m, k = m + 1 := ⟨k - 1, by omega⟩
    simp only [laws_equalBools.l0]
    rw [if_neg (by omega)]
  | succ d ih =>
    intro k i hi hk
    obtain ⟨k, rfl⟩ : ∃ m, k = m + 1 := ⟨k - 1, by omega⟩
    simp only [laws_equalBools.l0]
    rw [if_pos (by omega), if_pos (by omega), step_nat i (by omega), bne_self_eq_false]
    simp only [Bool.false_eq_true, if_false]
    rw [if_pos (by omega)]
    exact ih k (i + 1) (by omega) (by omega)

theorem equalBools_self (a : List Bool) (hl : a.length ≤ 2000000) (k : Nat) (hk : a.length < k) : laws_equalBools.f k a a = some true := by
  unfold laws_equalBools.f
  rw [if_pos rfl]
  exact equalBools_l0 a hl a.length k 0 (by omega) hk

theorem mn_min (a b : Int) : mn a b = min a b := by unfold mn; omega

/-- Which loads pass a bucket with so much left, the first one first or not, and what is left. -/
def pas (rate depth : Int) : List Int → Bool → Int → List Bool × Int
  | [], _, left => ([], left)
  | x :: t, first, left =>
    if x ≤ (if first = true then left else min depth (left + rate)) then (true :: (pas rate depth t false ((if first = true then left else min depth (left + rate)) - x)).1, (pas rate depth t false ((if first = true then left else min depth (left + rate)) - x)).2)
    else (false :: (pas rate depth t false (if first = true then left else min depth (left + rate))).1, (pas rate depth t false (if first = true then left else min depth (left + rate))).2)

theorem pas_length (rate depth : Int) : ∀ (l : List Int) (b : Bool) (left : Int), (pas rate depth l b left).1.length = l.length
  | [], _, _ => by simp [pas]
  | x :: t, b, left => by
    unfold pas
    generalize (if b = true then left else min depth (left + rate)) = m
    split
    · simp only [List.length_cons, pas_length rate depth t]
    · simp only [List.length_cons, pas_length rate depth t]

theorem pas_left (rate depth : Int) (hr : 0 ≤ rate) : ∀ (l : List Int) (b : Bool) (left : Int), (∀ x ∈ l, 0 ≤ x ∧ x ≤ 30) → 0 ≤ left → left ≤ depth → 0 ≤ (pas rate depth l b left).2 ∧ (pas rate depth l b left).2 ≤ depth
  | [], _, left, _, h0, h1 => by simp [pas]; omega
  | x :: t, b, left, hb, h0, h1 => by
    have hx := hb x (List.mem_cons_self ..)
    have ht : ∀ z ∈ t, 0 ≤ z ∧ z ≤ 30 := fun z hz => hb z (List.mem_cons_of_mem _ hz)
    unfold pas
    have hm : 0 ≤ (if b = true then left else min depth (left + rate)) ∧ (if b = true then left else min depth (left + rate)) ≤ depth := by split <;> omega
    generalize (if b = true then left else min depth (left + rate)) = m at hm ⊢
    split
    · exact pas_left rate depth hr t false (m - x) ht (by omega) (by omega)
    · exact pas_left rate depth hr t false m ht (by omega) (by omega)

/-- Loads. -/
def okL (l : List Int) : Bool := l.all fun x => decide (0 ≤ x ∧ x ≤ 30)

theorem okL_iff (l : List Int) : okL l = true ↔ ∀ x ∈ l, 0 ≤ x ∧ x ≤ 30 := by simp [okL]

theorem inRange_val (x a b : Int) : spec_inRange.f x a b = some (decide (a ≤ x ∧ x ≤ b)) := by
  unfold spec_inRange.f
  by_cases h : a ≤ x
  · rw [if_pos h]; simp [h]
  · rw [if_neg h]; simp [h]

theorem validLoads_l0 (l : List Int) (hl : l.length ≤ 2000000) : ∀ (d k i : Nat), i + d = l.length → d < k → spec_validLoads.l0 k l (i : Int) = some (okL (l.drop i) && decide (l.length ≤ 16)) := by
  intro d
  induction d with
  | zero =>
    intro k i hi hk
    obtain ⟨k, rfl⟩ : ∃ m, k = m + 1 := ⟨k - 1, by omega⟩
    simp only [spec_validLoads.l0]
    rw [if_neg (by omega), List.drop_eq_nil_of_le (by omega)]
    have e : decide ((l.length : Int) ≤ 16) = decide (l.length ≤ 16) := decide_eq_decide.mpr (by omega)
    rw [e]
    simp [okL]
  | succ d ih =>
    intro k i hi hk
    obtain ⟨k, rfl⟩ : ∃ m, k = m + 1 := ⟨k - 1, by omega⟩
    simp only [spec_validLoads.l0]
    rw [if_pos (by omega), if_pos (by omega), step_nat i (by omega), rd_nat l i (by omega), inRange_val]
    rw [List.drop_eq_getElem_cons (by omega : i < l.length)]
    simp only [Option.bind_some]
    by_cases e : 0 ≤ l[i]'(by omega) ∧ l[i]'(by omega) ≤ 30
    · rw [if_pos (decide_eq_true e), ih k (i + 1) (by omega) (by omega)]
      have h : okL (l[i]'(by omega) :: l.drop (i + 1)) = okL (l.drop (i + 1)) := by
        unfold okL
        rw [List.all_cons, decide_eq_true e, Bool.true_and]
      rw [h]
    · rw [if_neg (by simpa using e)]
      have h : okL (l[i]'(by omega) :: l.drop (i + 1)) = false := by
        unfold okL
        rw [List.all_cons, decide_eq_false e, Bool.false_and]
      rw [h, Bool.false_and]

theorem validLoads_ok (l : List Int) (hl : l.length ≤ 2000000) (k : Nat) (hk : l.length < k) : spec_validLoads.f k l = some (okL l && decide (l.length ≤ 16)) := by
  unfold spec_validLoads.f
  exact validLoads_l0 l hl l.length k 0 (by omega) hk

theorem specPas_l0 (rate depth : Int) (hr : 0 ≤ rate ∧ rate ≤ 30) (hd : 0 ≤ depth ∧ depth ≤ 200) (l : List Int) (hl : l.length ≤ 16) (hb : ∀ x ∈ l, 0 ≤ x ∧ x ≤ 30) : ∀ (d k i : Nat) (o : List Bool) (left : Int), i + d = l.length → d < k → o.length ≤ i → 0 ≤ left → left ≤ depth →
    spec_passes.l0 k rate depth l o left (i : Int) = some (o ++ (pas rate depth (l.drop i) (decide (i = 0)) left).1, (pas rate depth (l.drop i) (decide (i = 0)) left).2) := by
  intro d
  induction d with
  | zero =>
    intro k i o left hi hk ho h0 h1
    obtain ⟨k, rfl⟩ : ∃ m, k = m + 1 := ⟨k - 1, by omega⟩
    simp only [spec_passes.l0]
    rw [if_neg (by omega), List.drop_eq_nil_of_le (by omega)]
    simp [pas]
  | succ d ih =>
    intro k i o left hi hk ho h0 h1
    obtain ⟨k, rfl⟩ : ∃ m, k = m + 1 := ⟨k - 1, by omega⟩
    simp only [spec_passes.l0]
    have hx := hb (l[i]'(by omega)) (List.getElem_mem _)
    rw [if_pos (by omega), step_nat i (by omega), rd_nat l i (by omega), List.drop_eq_getElem_cons (by omega : i < l.length)]
    generalize l[i]'(by omega) = x at hx ⊢
    have hlen : ∀ z : Bool, (o ++ [z]).length ≤ i + 1 := fun z => by rw [List.length_append, List.length_singleton]; omega
    have hne : decide (i + 1 = 0) = false := decide_eq_false (by omega)
    by_cases hz : i = 0
    · rw [if_neg (by omega), if_pos (by omega)]
      rw [decide_eq_true hz]
      by_cases hp : x ≤ left
      · rw [if_pos hp, if_pos (by omega), IntWalk.wrap64_in (left - x) (by omega), ih k (i + 1) _ _ (by omega) (by omega) (hlen _) (by omega) (by omega), hne]
        simp [pas, hp]
      · rw [if_neg hp, if_pos (by omega), ih k (i + 1) _ _ (by omega) (by omega) (hlen _) (by omega) (by omega), hne]
        simp [pas, hp]
    · rw [if_pos (by omega), if_pos (by omega)]
      rw [decide_eq_false hz, IntWalk.wrap64_in (left + rate) (by omega), mn_min]
      have hm : 0 ≤ min depth (left + rate) ∧ min depth (left + rate) ≤ depth := by omega
      by_cases hp : x ≤ min depth (left + rate)
      · rw [if_pos hp, if_pos (by omega), IntWalk.wrap64_in (min depth (left + rate) - x) (by omega), ih k (i + 1) _ _ (by omega) (by omega) (hlen _) (by omega) (by omega), hne]
        simp only [pas, Bool.false_eq_true, if_false, if_pos hp, List.append_assoc, List.singleton_append]
      · rw [if_neg hp, if_pos (by omega), ih k (i + 1) _ _ (by omega) (by omega) (hlen _) (by omega) (by omega), hne]
        simp only [pas, Bool.false_eq_true, if_false, if_neg hp, List.append_assoc, List.singleton_append]

theorem specPasses_ok (rate depth : Int) (hr : 0 ≤ rate ∧ rate ≤ 30) (hd : 0 ≤ depth ∧ depth ≤ 200) (l : List Int) (hl : l.length ≤ 16) (hb : ∀ x ∈ l, 0 ≤ x ∧ x ≤ 30) (k : Nat) (hk : l.length < k) : spec_passes.f k rate depth l = some (pas rate depth l true depth) := by
  unfold spec_passes.f
  have := specPas_l0 rate depth hr hd l hl hb l.length k 0 [] depth (by omega) hk (by simp) (by omega) (by omega)
  simpa using this

theorem bucket_val (rate depth : Int) : spec_validBucket.f rate depth = some (decide ((0 ≤ rate ∧ rate ≤ 30) ∧ (0 ≤ depth ∧ depth ≤ 200))) := by
  unfold spec_validBucket.f
  simp only [inRange_val, Option.bind_some, decide_eq_true_eq]
  by_cases h : 0 ≤ rate ∧ rate ≤ 30
  · rw [if_pos h]; simp [h]
  · rw [if_neg h]; simp [h]

theorem within_val (x a b : Int) : impl_within.f x a b = some (decide (a ≤ x ∧ x ≤ b)) := by
  unfold impl_within.f
  by_cases h : a ≤ x
  · rw [if_pos h]; simp [h]
  · rw [if_neg h]; simp [h]

theorem containsLoads_val (l : List Int) : hand_Contains_loadsOk.f l = some (!okL l) := by
  unfold hand_Contains_loadsOk.f okL impl_loadsOk_1.f
  congr 1
  induction l with
  | nil => rfl
  | cons x l ih =>
    rw [List.any_cons, List.all_cons, ih, within_val]
    simp only [Option.bind_some, Option.getD_some, Bool.not_and]

theorem loadsOk_val (l : List Int) : impl_loadsOk.f l = some (okL l && decide (l.length ≤ 16)) := by
  unfold impl_loadsOk.f
  rw [containsLoads_val]
  simp only [Option.bind_some, Bool.not_not]
  by_cases h : l.length ≤ 16
  · rw [if_pos (by omega)]; simp [h]
  · rw [if_neg (by omega)]; simp [h]

theorem implPas_l0 (rate depth : Int) (hr : 0 ≤ rate ∧ rate ≤ 30) (hd : 0 ≤ depth ∧ depth ≤ 200) (l : List Int) (hl : l.length ≤ 16) (hb : ∀ x ∈ l, 0 ≤ x ∧ x ≤ 30) : ∀ (d k i : Nat) (o : List Bool) (left : Int), i + d = l.length → d < k → o.length ≤ i → 0 ≤ left → left ≤ depth →
    impl_PassesOf.l0 k rate depth o left l (l.length : Int) (i : Int) = some (o ++ (pas rate depth (l.drop i) (decide (i = 0)) left).1, (pas rate depth (l.drop i) (decide (i = 0)) left).2) := by
  intro d
  induction d with
  | zero =>
    intro k i o left hi hk ho h0 h1
    obtain ⟨k, rfl⟩ : ∃ m, k = m + 1 := ⟨k - 1, by omega⟩
    simp only [impl_PassesOf.l0]
    rw [if_neg (by omega), List.drop_eq_nil_of_le (by omega)]
    simp [pas]
  | succ d ih =>
    intro k i o left hi hk ho h0 h1
    obtain ⟨k, rfl⟩ : ∃ m, k = m + 1 := ⟨k - 1, by omega⟩
    simp only [impl_PassesOf.l0]
    have hx := hb (l[i]'(by omega)) (List.getElem_mem _)
    rw [if_pos (by omega), if_pos (by omega), if_pos (by omega), step_nat i (by omega), rd_nat l i (by omega), List.drop_eq_getElem_cons (by omega : i < l.length)]
    generalize l[i]'(by omega) = x at hx ⊢
    have hlen : ∀ z : Bool, (o ++ [z]).length ≤ i + 1 := fun z => by rw [List.length_append, List.length_singleton]; omega
    have hne : decide (i + 1 = 0) = false := decide_eq_false (by omega)
    by_cases hz : i = 0
    · rw [if_neg (by omega)]
      rw [decide_eq_true hz]
      by_cases hp : x ≤ left
      · rw [if_pos hp, if_pos (by omega), IntWalk.wrap64_in (left - x) (by omega), ih k (i + 1) _ _ (by omega) (by omega) (hlen _) (by omega) (by omega), hne]
        simp [pas, hp]
      · rw [if_neg hp, if_pos (by omega), ih k (i + 1) _ _ (by omega) (by omega) (hlen _) (by omega) (by omega), hne]
        simp [pas, hp]
    · rw [if_pos (by omega)]
      rw [decide_eq_false hz, IntWalk.wrap64_in (left + rate) (by omega), mn_min, Int.min_comm (left + rate) depth]
      have hm : 0 ≤ min depth (left + rate) ∧ min depth (left + rate) ≤ depth := by omega
      by_cases hp : x ≤ min depth (left + rate)
      · rw [if_pos hp, if_pos (by omega), IntWalk.wrap64_in (min depth (left + rate) - x) (by omega), ih k (i + 1) _ _ (by omega) (by omega) (hlen _) (by omega) (by omega), hne]
        simp only [pas, Bool.false_eq_true, if_false, if_pos hp, List.append_assoc, List.singleton_append]
      · rw [if_neg hp, if_pos (by omega), ih k (i + 1) _ _ (by omega) (by omega) (hlen _) (by omega) (by omega), hne]
        simp only [pas, Bool.false_eq_true, if_false, if_neg hp, List.append_assoc, List.singleton_append]

/-- What both return. -/
def passB (rate depth : Int) (l : List Int) : List Bool × Int := if (0 ≤ rate ∧ rate ≤ 30) ∧ (0 ≤ depth ∧ depth ≤ 200) ∧ okL l = true ∧ l.length ≤ 16 then pas rate depth l true depth else ([], -1)

theorem passB_length (rate depth : Int) (l : List Int) : (passB rate depth l).1.length ≤ 16 := by
  unfold passB
  split
  · next h => rw [pas_length]; exact h.2.2.2
  · simp

theorem implPasses_ok (rate depth : Int) (l : List Int) (k : Nat) (hk : l.length + 1 < k) : impl_PassesOf.f k rate depth l = some (passB rate depth l) := by
  unfold impl_PassesOf.f passB
  obtain ⟨k, rfl⟩ : ∃ m, k = m + 1 := ⟨k - 1, by omega⟩
  simp only [within_val, loadsOk_val, Option.bind_some, decide_eq_true_eq]
  by_cases h1 : 0 ≤ rate ∧ rate ≤ 30
  · rw [if_pos h1]
    by_cases h2 : 0 ≤ depth ∧ depth ≤ 200
    · rw [if_pos h2]
      by_cases h3 : okL l = true ∧ l.length ≤ 16
      · rw [if_pos (show (0 ≤ rate ∧ rate ≤ 30) ∧ (0 ≤ depth ∧ depth ≤ 200) ∧ okL l = true ∧ l.length ≤ 16 from ⟨h1, h2, h3⟩), h3.1, decide_eq_true h3.2]
        simp only [impl_PassesOf.j0, Bool.and_self, Bool.not_true, Bool.false_eq_true, if_false]
        have := implPas_l0 rate depth h1 h2 l h3.2 ((okL_iff l).1 h3.1) l.length k 0 [] depth (by omega) (by omega) (by simp) (by omega) (by omega)
        simpa using this
      · rw [if_neg (fun h => h3 h.2.2)]
        have h4 : (okL l && decide (l.length ≤ 16)) = false := by
          cases h5 : okL l
          · rfl
          · rw [decide_eq_false (fun h6 => h3 ⟨h5, h6⟩)]; rfl
        rw [h4]
        simp [impl_PassesOf.j0]
    · rw [if_neg h2, if_neg (fun h => h2 h.2.1)]
      simp [impl_PassesOf.j0]
  · rw [if_neg h1, if_neg (fun h => h1 h.1)]
    simp [impl_PassesOf.j0]

theorem specPassesOf_ok (rate depth : Int) (l : List Int) (hl : l.length ≤ 2000000) (k : Nat) (hk : l.length + 1 < k) : spec_PassesOf.f k rate depth l = some (passB rate depth l) := by
  unfold spec_PassesOf.f passB
  simp only [bucket_val, validLoads_ok l hl k (by omega), Option.bind_some, decide_eq_true_eq, Bool.and_eq_true]
  by_cases h1 : (0 ≤ rate ∧ rate ≤ 30) ∧ (0 ≤ depth ∧ depth ≤ 200)
  · rw [if_pos h1]
    by_cases h3 : okL l = true ∧ l.length ≤ 16
    · rw [if_pos h3, if_pos (show (0 ≤ rate ∧ rate ≤ 30) ∧ (0 ≤ depth ∧ depth ≤ 200) ∧ okL l = true ∧ l.length ≤ 16 from ⟨h1.1, h1.2, h3⟩), specPasses_ok rate depth h1.1 h1.2 l h3.2 ((okL_iff l).1 h3.1) k (by omega)]
      rfl
    · rw [if_neg h3, if_neg (fun h => h3 h.2.2)]
  · rw [if_neg h1, if_neg (fun h => h1 ⟨h.1, h.2.1⟩)]


/-- The sum of what passes. -/
def psum : List Bool → List Int → Int
  | b :: bs, x :: xs => (if b = true then x else 0) + psum bs xs
  | _, _ => 0

theorem pas_sum (rate depth : Int) (hr : 0 ≤ rate) : ∀ (l : List Int) (b : Bool) (left : Int), (∀ x ∈ l, 0 ≤ x ∧ x ≤ 30) → 0 ≤ left → left ≤ depth →
    psum (pas rate depth l b left).1 l + (pas rate depth l b left).2 ≤ left + rate * (if b = true then max ((l.length : Int) - 1) 0 else (l.length : Int)) ∧ 0 ≤ psum (pas rate depth l b left).1 l
  | [], b, left, _, _, _ => by
    simp only [pas, psum, List.length_nil]
    have : rate * (if b = true then max (((0 : Nat) : Int) - 1) 0 else ((0 : Nat) : Int)) = 0 := by
      split
      · rw [show max (((0 : Nat) : Int) - 1) 0 = 0 by omega, Int.mul_zero]
      · exact Int.mul_zero _
    omega
  | x :: t, b, left, hb, h0, h1 => by
    have hx := hb x (List.mem_cons_self ..)
    have ht : ∀ z ∈ t, 0 ≤ z ∧ z ≤ 30 := fun z hz => hb z (List.mem_cons_of_mem _ hz)
    unfold pas
    have hm : 0 ≤ (if b = true then left else min depth (left + rate)) ∧ (if b = true then left else min depth (left + rate)) ≤ depth ∧ (if b = true then left else min depth (left + rate)) ≤ left + (if b = true then 0 else rate) := by
      split <;> omega
    have he : rate * (if b = true then max (((x :: t).length : Int) - 1) 0 else ((x :: t).length : Int)) = rate * (t.length : Int) + (if b = true then 0 else rate) := by
      rw [List.length_cons]
      split
      · rw [show max (((t.length + 1 : Nat) : Int) - 1) 0 = (t.length : Int) by omega]; omega
      · rw [show ((t.length + 1 : Nat) : Int) = (t.length : Int) + 1 by omega, Int.mul_add, Int.mul_one]
    rw [he]
    generalize (if b = true then left else min depth (left + rate)) = m at hm ⊢
    split
    · have ih := pas_sum rate depth hr t false (m - x) ht (by omega) (by omega)
      simp only [Bool.false_eq_true, if_false] at ih
      simp only [psum, if_true]
      omega
    · have ih := pas_sum rate depth hr t false m ht (by omega) (by omega)
      simp only [Bool.false_eq_true, if_false] at ih
      simp only [psum, Bool.false_eq_true, if_false]
      omega

theorem drawPasses_ok (l0 : List Int) (hw : ∀ x ∈ l0, (Lit.int .u8 x).wf = true) (k : Nat) (hk : 30 ≤ k) : ∃ r d l, spec_DrawPassesOf.f k l0 = some (r, d, l) ∧ l.length ≤ 33 := by
  obtain ⟨b, hr, hb, hn⟩ := reader_ok l0 hw
  obtain ⟨k, rfl⟩ : ∃ m, k = m + 1 := ⟨k - 1, by omega⟩
  obtain ⟨v, hv, _⟩ := one_ok b hb hn k 0 [3, 5, 1, 0, 10, 30, 31] (by omega) (by omega) (by simp)
  obtain ⟨u, hu, _⟩ := one_ok b hb hn k (0 + 1) [10, 20, 5, 40, 0, 200, 201, -1] (by omega) (by omega) (by simp)
  obtain ⟨o, p, h1, h2, _, _, _⟩ := someLoads_ok b hb hn (k + 1) (by omega) (0 + 1 + 1) (by omega) (by omega)
  refine ⟨v, u, o, ?_, h2⟩
  unfold spec_DrawPassesOf.f
  simp only [hr, Option.bind_some, hv, hu, h1]

theorem mx_max (a b : Int) : mx a b = max a b := by unfold mx; omega

theorem law_l0 (rate depth : Int) (hr : 0 ≤ rate ∧ rate ≤ 30) (hd : 0 ≤ depth ∧ depth ≤ 200) (l : List Int) (hl : l.length ≤ 16) (hb : ∀ x ∈ l, 0 ≤ x ∧ x ≤ 30) (out : List Bool) (left : Int) (ho : out.length = l.length) (hl0 : 0 ≤ left) (hl1 : left ≤ depth) :
    ∀ (d k i : Nat) (s : Int), i + d = l.length → d < k → 0 ≤ s → s ≤ 30 * i → s + psum (out.drop i) (l.drop i) + left ≤ depth + rate * max ((l.length : Int) - 1) 0 → laws_FnPassesOf.l0 k rate depth l out left s (i : Int) = some true := by
  intro d
  induction d with
  | zero =>
    intro k i s hi hk h0 h1 hs
    obtain ⟨k, rfl⟩ : ∃ m, k = m + 1 := ⟨k - 1, by omega⟩
    simp only [laws_FnPassesOf.l0]
    rw [if_neg (by omega)]
    rw [List.drop_eq_nil_of_le (by omega), List.drop_eq_nil_of_le (by omega)] at hs
    simp only [psum] at hs
    rw [IntWalk.wrap64_in ((l.length : Int) - 1) (by omega), mx_max]
    have hm0 : 0 ≤ rate * max ((l.length : Int) - 1) 0 := Int.mul_nonneg hr.1 (by omega)
    have hm1 : rate * max ((l.length : Int) - 1) 0 ≤ 30 * 16 := Int.mul_le_mul hr.2 (by omega) (by omega) (by omega)
    rw [IntWalk.wrap64_in (rate * max ((l.length : Int) - 1) 0) (by omega), IntWalk.wrap64_in (depth + rate * max ((l.length : Int) - 1) 0) (by omega), IntWalk.wrap64_in (s + left) (by omega), if_pos (by omega), if_pos hl1, ho]
    simp
  | succ d ih =>
    intro k i s hi hk h0 h1 hs
    obtain ⟨k, rfl⟩ : ∃ m, k = m + 1 := ⟨k - 1, by omega⟩
    simp only [laws_FnPassesOf.l0]
    have hx := hb (l[i]'(by omega)) (List.getElem_mem _)
    rw [List.drop_eq_getElem_cons (by omega : i < l.length), List.drop_eq_getElem_cons (by omega : i < out.length)] at hs
    simp only [psum] at hs
    rw [if_pos (by omega), if_pos (by omega), step_nat i (by omega), rd_nat l i (by omega), rdOf_nat out i (by omega)]
    generalize l[i]'(by omega) = x at hx hs ⊢
    generalize out[i]'(by omega) = b at hs ⊢
    cases b with
    | true =>
      simp only [if_true] at hs ⊢
      rw [if_pos (by omega), IntWalk.wrap64_in (s + x) (by omega)]
      exact ih k (i + 1) (s + x) (by omega) (by omega) (by omega) (by omega) (by omega)
    | false =>
      simp only [Bool.false_eq_true, if_false] at hs ⊢
      exact ih k (i + 1) s (by omega) (by omega) (by omega) (by omega) (by omega)

theorem FnPassesOf : laws_FnPassesOf.Pure := by
  intro l0 _ _ hw
  by_cases hc : (l0.length : Int) > 1048576
  · exact ⟨0, by unfold laws_FnPassesOf.f; rw [if_pos hc]⟩
  · refine ⟨300, ?_⟩
    obtain ⟨rate, depth, l, hd, hlen⟩ := drawPasses_ok l0 hw 300 (by omega)
    have hsl := passB_length rate depth l
    unfold laws_FnPassesOf.f
    rw [if_neg hc, hd]
    simp only [Option.bind_some, implPasses_ok rate depth l 300 (by omega), specPassesOf_ok rate depth l (by omega) 300 (by omega), equalBools_self (passB rate depth l).1 (by omega) 300 (by omega), if_true]
    by_cases h : (0 ≤ rate ∧ rate ≤ 30) ∧ (0 ≤ depth ∧ depth ≤ 200) ∧ okL l = true ∧ l.length ≤ 16
    · have hb := (okL_iff l).1 h.2.2.1
      have hv : passB rate depth l = pas rate depth l true depth := by unfold passB; rw [if_pos h]
      have h1 := pas_sum rate depth (by omega) l true depth hb (by omega) (by omega)
      have h2 := pas_left rate depth (by omega) l true depth hb (by omega) (by omega)
      have h3 := pas_length rate depth l true depth
      rw [← hv] at h1 h2 h3
      simp only [if_true] at h1
      rw [decide_eq_false (by omega)]
      rw [show (300 : Nat) = 299 + 1 from rfl, laws_FnPassesOf.j0]
      simp only [Bool.false_eq_true, if_false]
      exact law_l0 rate depth h.1 h.2.1 l h.2.2.2 hb _ _ h3 h2.1 h2.2 l.length 299 0 0 (by omega) (by omega) (by omega) (by omega) (by simpa using h1.1)
    · have hv : passB rate depth l = ([], -1) := by unfold passB; rw [if_neg h]
      rw [hv]
      rw [show (300 : Nat) = 299 + 1 from rfl, laws_FnPassesOf.j0]
      simp only [show decide ((-1 : Int) < 0) = true from rfl, if_true, equalBools_self [] (by simp) 299 (by simp), Option.bind_some, beq_self_eq_true]

end Go.Proofs.Ytdppkdcfocaemaa.Pure
