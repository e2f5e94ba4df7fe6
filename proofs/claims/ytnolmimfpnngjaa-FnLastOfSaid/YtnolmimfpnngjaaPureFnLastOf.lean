/- The last field counts: FnLastOf returns true for every list of bytes. Conditions: none. -/
import Derived.Test.YtnolmimfpnngjaaHFnLastOfx3
namespace Go.Proofs.Ytnolmimfpnngjaa.Pure
open Go.RowKit Go.Proofs.Ytnolmimfpnngjaa.HFnLastOf Go.Proofs.YtnolmimfpnngjaaW.PrintWords Go.Proofs.YtnolmimfpnngjaaW.PrintLast
open Go
set_option linter.unusedVariables false
set_option linter.unusedSimpArgs false

theorem xor64_range (a b : Int) (ha : 0 ≤ a) (ha' : a < 1073741824) (hb : 0 ≤ b) (hb' : b < 1073741824) :
    0 ≤ Go.bits .xor .i64 a b ∧ Go.bits .xor .i64 a b < 1073741824 := by
  obtain ⟨m, rfl⟩ := Int.eq_ofNat_of_zero_le ha
  obtain ⟨n, rfl⟩ := Int.eq_ofNat_of_zero_le hb
  have hm : m < 2 ^ 30 := by omega
  have hn : n < 2 ^ 30 := by omega
  have hx : m ^^^ n < 2 ^ 30 := Nat.xor_lt_two_pow hm hn
  have hm' : m % 2 ^ IntKind.i64.bits = m := Nat.mod_eq_of_lt (Nat.lt_of_lt_of_le hm (by decide))
  have hn' : n % 2 ^ IntKind.i64.bits = n := Nat.mod_eq_of_lt (Nat.lt_of_lt_of_le hn (by decide))
  simp only [Go.bits, BitVec.ofInt_natCast, BitVec.toNat_xor, BitVec.toNat_ofNat, hm', hn']
  rw [IntWalk.i64_in ((m ^^^ n : Nat) : Int) (by omega)]
  omega

theorem rd_range (l : List Int) (hl : ∀ x ∈ l, 0 ≤ x ∧ x ≤ 255) (i : Int) : 0 ≤ rd l i ∧ rd l i ≤ 255 := by
  unfold rd
  rw [List.getD_eq_getElem?_getD]
  cases h : l[i.toNat]? with
  | none => simp
  | some v => exact hl v (List.mem_of_getElem? h)

theorem tmod_range (a n : Int) (ha : 0 ≤ a) (hn : 1 ≤ n) : 0 ≤ Int.tmod a n ∧ Int.tmod a n < n :=
  ⟨Int.tmod_nonneg n ha, Int.tmod_lt_of_pos a (by omega)⟩

theorem pick_ok (l : List Int) (hl : ∀ x ∈ l, 0 ≤ x ∧ x ≤ 255) (hn : l.length ≤ 2000) (k : Nat) (p n : Int) (hp : 0 ≤ p) (hp' : p ≤ 1000000) :
    ∃ v, spec_reader_pick.f (k + 1) l p n = some (v, p + 1) ∧ 0 ≤ v ∧ (1 ≤ n → v < n) := by
  have hw : wrap64 (p + 1) = p + 1 := IntWalk.wrap64_in _ (by omega)
  unfold spec_reader_pick.f
  rw [hw]
  by_cases h1 : n < 1
  · rw [if_pos h1]
    exact ⟨0, by simp [spec_reader_pick.j0], by omega, fun h => by omega⟩
  · rw [if_neg h1]
    by_cases h2 : l.length = 0
    · exact ⟨0, by simp [spec_reader_pick.j0, h2], by omega, fun h => by omega⟩
    · have hb : ((l.length : Int) == 0) = false := beq_eq_false_iff_ne.mpr (by omega)
      have hw1 : wrap64 (p + 1 - 1) = p := (IntWalk.wrap64_in (p + 1 - 1) (by omega)).trans (by omega)
      have hn0 : n ≠ 0 := by omega
      have hl0 : (l.length : Int) ≠ 0 := by omega
      simp only [spec_reader_pick.j0, hb, hw1, Bool.false_eq_true, if_false, hn0, hl0]
      by_cases h3 : p < (l.length : Int)
      · rw [if_pos h3, if_pos hp]
        have hr := rd_range l hl p
        rw [IntWalk.wrap64_in (rd l p) (by omega)]
        have ht := tmod_range (rd l p) n hr.1 (by omega)
        exact ⟨_, rfl, ht.1, fun _ => ht.2⟩
      · rw [if_neg h3]
        have hm1 := tmod_range p (l.length : Int) hp (by omega)
        rw [if_pos hm1.1, if_pos hm1.2]
        have hw7 : wrap64 (p * 7) = p * 7 := IntWalk.wrap64_in _ (by omega)
        have hw73 : wrap64 (p * 7 + 3) = p * 7 + 3 := IntWalk.wrap64_in _ (by omega)
        rw [hw7, hw73]
        have hm2 := tmod_range (p * 7 + 3) (l.length : Int) (by omega) (by omega)
        rw [if_pos hm2.1, if_pos hm2.2]
        have hr1 := rd_range l hl (Int.tmod p (l.length : Int))
        have hr2 := rd_range l hl (Int.tmod (p * 7 + 3) (l.length : Int))
        generalize rd l (Int.tmod p (l.length : Int)) = r1 at hr1 ⊢
        generalize rd l (Int.tmod (p * 7 + 3) (l.length : Int)) = r2 at hr2 ⊢
        have hq : 0 ≤ Int.tdiv p (l.length : Int) ∧ Int.tdiv p (l.length : Int) ≤ p := by
          rw [Int.tdiv_eq_ediv_of_nonneg hp]
          exact ⟨Int.ediv_nonneg hp (by omega), Int.ediv_le_self _ hp⟩
        generalize Int.tdiv p (l.length : Int) = q at hq ⊢
        simp (disch := omega) only [IntWalk.wrap64_in]
        have hX : 0 ≤ r1 * 131 + r2 * 1117 + p * 29 + q * 53 ∧ r1 * 131 + r2 * 1117 + p * 29 + q * 53 < 1073741824 := by omega
        generalize r1 * 131 + r2 * 1117 + p * 29 + q * 53 = X at hX ⊢
        have hd : 0 ≤ Int.tdiv X 64 ∧ Int.tdiv X 64 < 1073741824 := by
          rw [Int.tdiv_eq_ediv_of_nonneg hX.1]; omega
        rw [IntWalk.wrap64_in (Int.tdiv X 64) (by omega)]
        have hx := xor64_range X (Int.tdiv X 64) hX.1 hX.2 hd.1 hd.2
        have ht := tmod_range (Go.bits .xor .i64 X (Int.tdiv X 64)) n hx.1 (by omega)
        exact ⟨_, rfl, ht.1, fun _ => ht.2⟩

theorem reader_ok (l0 : List Int) (hw : ∀ x ∈ l0, (Lit.int .u8 x).wf = true) :
    ∃ l, spec_newReader.f l0 = some (l, 0) ∧ (∀ x ∈ l, 0 ≤ x ∧ x ≤ 255) ∧ l.length ≤ 2000 := by
  have hb : ∀ x ∈ l0, 0 ≤ x ∧ x ≤ 255 := by
    intro x hx
    have h := hw x hx
    simp [Lit.wf, IntKind.min, IntKind.max, IntKind.signed, IntKind.bits] at h
    omega
  unfold spec_newReader.f
  by_cases h : (l0.length : Int) > 2000
  · rw [if_pos h, if_pos (by omega)]
    exact ⟨_, rfl, fun x hx => hb x (List.mem_of_mem_take hx), by rw [List.length_take]; omega⟩
  · rw [if_neg h]
    exact ⟨_, rfl, hb, by omega⟩

theorem one_ok (l : List Int) (hl : ∀ x ∈ l, 0 ≤ x ∧ x ≤ 255) (hn : l.length ≤ 2000) (k : Nat) (p : Int) (xs : List Int) (hp : 0 ≤ p) (hp' : p ≤ 1000000) (hx : 1 ≤ xs.length) :
    ∃ v, spec_reader_one.f (k + 1) l p xs = some (v, p + 1) ∧ v ∈ xs := by
  obtain ⟨v, hv, h0, h1⟩ := pick_ok l hl hn k p (xs.length : Int) hp hp'
  have h2 := h1 (by omega)
  unfold spec_reader_one.f
  rw [hv]
  simp only [Option.bind_some]
  rw [if_pos h0, if_pos h2]
  refine ⟨_, rfl, ?_⟩
  unfold rd
  have h3 : v.toNat < xs.length := by omega
  rw [List.getD_eq_getElem?_getD, List.getElem?_eq_getElem h3]
  exact List.getElem_mem h3

theorem someBytes_end (l : List Int) (hb : ∀ x ∈ l, 0 ≤ x ∧ x ≤ 255) (hn : l.length ≤ 2000) (most : Int) (k : Nat) (o : List Int) (n p : Int) (hp : 0 ≤ p) (hp' : p ≤ 900000) (ho : o.length ≤ 1000) (hx : ∀ x ∈ o, -1 ≤ x ∧ x ≤ 256) :
    ∃ o' p', spec_someBytes.j1 (k + 2) most o n false l p = some (o', p') ∧ o'.length ≤ o.length + 17 ∧ (∀ x ∈ o', -1 ≤ x ∧ x ≤ 256) ∧ p ≤ p' ∧ p' ≤ p + 1 := by
  obtain ⟨v, hv, h0, h1⟩ := pick_ok l hb hn k p 30 hp (by omega)
  simp only [spec_someBytes.j1, Bool.false_eq_true, if_false, hv, Option.bind_some]
  have happ : ∀ y : List Int, (∀ x ∈ y, -1 ≤ x ∧ x ≤ 256) → ∀ x ∈ o ++ y, -1 ≤ x ∧ x ≤ 256 := fun y hy x hxx => by
    rcases List.mem_append.1 hxx with h | h
    · exact hx x h
    · exact hy x h
  by_cases e0 : v = 0
  · rw [if_pos e0, if_pos (by omega)]
    exact ⟨_, _, rfl, by simp, happ _ (by simp), by omega, by omega⟩
  · rw [if_neg e0]
    by_cases e1 : v = 1
    · rw [if_pos e1, if_pos (by omega)]
      exact ⟨_, _, rfl, by simp, happ _ (by simp), by omega, by omega⟩
    · rw [if_neg e1]
      by_cases e2 : v = 2
      · rw [if_pos e2, if_pos (by simp; omega)]
        exact ⟨_, _, rfl, by simp, happ _ (by simp), by omega, by omega⟩
      · rw [if_neg e2]
        exact ⟨_, _, rfl, by omega, hx, by omega, by omega⟩

theorem someBytes_l0 (l : List Int) (hb : ∀ x ∈ l, 0 ≤ x ∧ x ≤ 255) (hn : l.length ≤ 2000) (most : Int) : ∀ (n k : Nat) (o : List Int) (p : Int), 2 * n + 4 ≤ k → n ≤ 16 → 0 ≤ p → p ≤ 800000 - 3 * n → o.length + n ≤ 900 → (∀ x ∈ o, -1 ≤ x ∧ x ≤ 256) →
    ∃ o' p', spec_someBytes.l0 k most o (n : Int) l p = some (o', p') ∧ o'.length ≤ o.length + n + 17 ∧ (∀ x ∈ o', -1 ≤ x ∧ x ≤ 256) ∧ p ≤ p' ∧ p' ≤ p + 3 * n + 1 := by
  intro n
  induction n with
  | zero =>
    intro k o p hk _ hp hp' ho hx
    obtain ⟨k, rfl⟩ : ∃ m, k = m + 1 + 2 := ⟨k - 3, by omega⟩
    simp only [spec_someBytes.l0]
    rw [if_neg (by omega)]
    obtain ⟨o', p', h1, h2, h3, h4, h5⟩ := someBytes_end l hb hn most k o ((0 : Nat) : Int) p hp (by omega) (by omega) hx
    exact ⟨o', p', h1, by omega, h3, h4, by omega⟩
  | succ n ih =>
    intro k o p hk hn16 hp hp' ho hx
    obtain ⟨k, rfl⟩ : ∃ m, k = m + 1 + 2 := ⟨k - 3, by omega⟩
    simp only [spec_someBytes.l0]
    rw [if_pos (by omega)]
    by_cases hm : (o.length : Int) < most
    · rw [decide_eq_true hm]
      obtain ⟨a, ha, ha0, ha1⟩ := pick_ok l hb hn k p 256 hp (by omega)
      obtain ⟨b, hb1, hb0, hb2⟩ := pick_ok l hb hn k (p + 1) 4 (by omega) (by omega)
      obtain ⟨c, hc, hmem⟩ := one_ok l hb hn k (p + 1 + 1) [a, 0, 192, 219, b, 255] (by omega) (by omega) (by simp)
      have hcr : -1 ≤ c ∧ c ≤ 256 := by
        have h1 := ha1 (by omega)
        have h2 := hb2 (by omega)
        simp only [List.mem_cons, List.not_mem_nil, or_false] at hmem
        omega
      simp only [spec_someBytes.j1, if_true, ha, hb1, hc, Option.bind_some]
      rw [if_pos (by omega), (IntWalk.wrap64_in (((n + 1 : Nat) : Int) - 1) (by omega)).trans (show ((n + 1 : Nat) : Int) - 1 = (n : Int) by omega)]
      obtain ⟨o', p', h1, h2, h3, h4, h5⟩ := ih (k + 1) (o ++ [c]) (p + 1 + 1 + 1) (by omega) (by omega) (by omega) (by omega) (by rw [List.length_append, List.length_singleton]; omega) (fun x hxx => by
        rcases List.mem_append.1 hxx with h | h
        · exact hx x h
        · rw [List.mem_singleton.1 h]; exact hcr)
      rw [List.length_append, List.length_singleton] at h2
      exact ⟨o', p', h1, by omega, h3, by omega, by omega⟩
    · rw [decide_eq_false hm]
      obtain ⟨o', p', h1, h2, h3, h4, h5⟩ := someBytes_end l hb hn most k o ((n + 1 : Nat) : Int) p hp (by omega) (by omega) hx
      exact ⟨o', p', h1, by omega, h3, h4, by omega⟩

theorem someBytes_ok (l : List Int) (hb : ∀ x ∈ l, 0 ≤ x ∧ x ≤ 255) (hn : l.length ≤ 2000) (most : Int) (k : Nat) (hk : 40 ≤ k) (p : Int) (hp : 0 ≤ p) (hp' : p ≤ 700000) :
    ∃ o' p', spec_someBytes.f k l p most = some (o', p') ∧ o'.length ≤ 33 ∧ (∀ x ∈ o', -1 ≤ x ∧ x ≤ 256) ∧ p ≤ p' ∧ p' ≤ p + 50 := by
  obtain ⟨k, rfl⟩ : ∃ m, k = m + 1 := ⟨k - 1, by omega⟩
  obtain ⟨v, hv, hmem⟩ := one_ok l hb hn k p [4, 6, 3, 8, 2, 1, 0, 16] hp (by omega) (by simp)
  have hvr : 0 ≤ v ∧ v ≤ 16 := by
    simp only [List.mem_cons, List.not_mem_nil, or_false] at hmem
    omega
  obtain ⟨m, rfl⟩ := Int.eq_ofNat_of_zero_le hvr.1
  unfold spec_someBytes.f
  simp only [hv, Option.bind_some]
  obtain ⟨o', p', h1, h2, h3, h4, h5⟩ := someBytes_l0 l hb hn most m (k + 1) [] (p + 1) (by omega) (by omega) (by omega) (by omega) (by simp; omega) (by simp)
  simp only [List.length_nil] at h2
  exact ⟨o', p', h1, by omega, h3, by omega, by omega⟩

theorem rd_nat (l : List Int) (i : Nat) (h : i < l.length) : rd l (i : Int) = l[i] := by
  unfold rd
  rw [Int.toNat_natCast, List.getD_eq_getElem?_getD, List.getElem?_eq_getElem h]
  rfl

theorem step_nat (i : Nat) (h : i < 4611686018427387904) : wrap64 ((i : Int) + 1) = ((i + 1 : Nat) : Int) := by
  rw [IntWalk.wrap64_in ((i : Int) + 1) (by omega)]
  rfl

theorem equalInts_l0 (a b : List Int) (hab : a.length = b.length) (hl : a.length ≤ 2000000) : ∀ (d k i : Nat), i + d = a.length → d < k → laws_equalInts.l0 k a b (i : Int) = some (decide (a.drop i = b.drop i)) := by
  intro d
  induction d with
  | zero =>
    intro k i hi hk
    obtain ⟨k, rfl⟩ : ∃ m, k = m + 1 := ⟨k - 1, by omega⟩
    simp only [laws_equalInts.l0]
    rw [if_neg (by omega), List.drop_eq_nil_of_le (by omega), List.drop_eq_nil_of_le (by omega)]
    rfl
  | succ d ih =>
    intro k i hi hk
    obtain ⟨k, rfl⟩ : ∃ m, k = m + 1 := ⟨k - 1, by omega⟩
    simp only [laws_equalInts.l0]
    rw [if_pos (by omega), if_pos (by omega), if_pos (by omega), step_nat i (by omega), rd_nat a i (by omega), rd_nat b i (by omega)]
    rw [List.drop_eq_getElem_cons (by omega : i < a.length), List.drop_eq_getElem_cons (by omega : i < b.length)]
    by_cases e : a[i]'(by omega) = b[i]'(by omega)
    · rw [if_pos e, ih k (i + 1) (by omega) (by omega), e]
      exact congrArg some (decide_eq_decide.mpr ⟨fun h => by rw [h], fun h => (List.cons.inj h).2⟩)
    · rw [if_neg e]
      exact congrArg some (decide_eq_false (fun h => e (List.cons.inj h).1)).symm

theorem equalInts_ok (a b : List Int) (hl : a.length ≤ 2000000) (k : Nat) (hk : a.length < k) : laws_equalInts.f k a b = some (decide (a = b)) := by
  unfold laws_equalInts.f
  by_cases h : a.length = b.length
  · rw [if_pos (by omega)]
    exact equalInts_l0 a b h hl a.length k 0 (by omega) hk
  · rw [if_neg (by omega), decide_eq_false (fun e => h (by rw [e]))]

theorem equalInts_self (a : List Int) (hl : a.length ≤ 2000000) (k : Nat) (hk : a.length < k) : laws_equalInts.f k a a = some true := by
  rw [equalInts_ok a a hl k hk, decide_eq_true rfl]

/-- Numbers of one byte. -/
def okB (l : List Int) : Bool := l.all fun x => decide (0 ≤ x ∧ x ≤ 255)

theorem okB_iff (l : List Int) : okB l = true ↔ ∀ x ∈ l, 0 ≤ x ∧ x ≤ 255 := by simp [okB]

theorem inRange_val (x a b : Int) : spec_inRange.f x a b = some (decide (a ≤ x ∧ x ≤ b)) := by
  unfold spec_inRange.f
  by_cases h : a ≤ x
  · rw [if_pos h]; simp [h]
  · rw [if_neg h]; simp [h]

theorem validBytes_l0 (l : List Int) (m : Int) (hl : l.length ≤ 2000000) : ∀ (d k i : Nat), i + d = l.length → d < k → spec_validBytes.l0 k l m (i : Int) = some (okB (l.drop i) && decide ((l.length : Int) ≤ m)) := by
  intro d
  induction d with
  | zero =>
    intro k i hi hk
    obtain ⟨k, rfl⟩ : ∃ m, k = m + 1 := ⟨k - 1, by omega⟩
    simp only [spec_validBytes.l0]
    rw [if_neg (by omega), List.drop_eq_nil_of_le (by omega)]
    simp [okB]
  | succ d ih =>
    intro k i hi hk
    obtain ⟨k, rfl⟩ : ∃ m, k = m + 1 := ⟨k - 1, by omega⟩
    simp only [spec_validBytes.l0]
    rw [if_pos (by omega), if_pos (by omega), step_nat i (by omega), rd_nat l i (by omega), inRange_val]
    rw [List.drop_eq_getElem_cons (by omega : i < l.length)]
    simp only [Option.bind_some]
    by_cases e : 0 ≤ l[i]'(by omega) ∧ l[i]'(by omega) ≤ 255
    · rw [if_pos (decide_eq_true e), ih k (i + 1) (by omega) (by omega)]
      have h : okB (l[i]'(by omega) :: l.drop (i + 1)) = okB (l.drop (i + 1)) := by
        unfold okB
        rw [List.all_cons, decide_eq_true e, Bool.true_and]
      rw [h]
    · rw [if_neg (by simpa using e)]
      have h : okB (l[i]'(by omega) :: l.drop (i + 1)) = false := by
        unfold okB
        rw [List.all_cons, decide_eq_false e, Bool.false_and]
      rw [h, Bool.false_and]

theorem validBytes_ok (l : List Int) (m : Int) (hl : l.length ≤ 2000000) (k : Nat) (hk : l.length < k) : spec_validBytes.f k l m = some (okB l && decide ((l.length : Int) ≤ m)) := by
  unfold spec_validBytes.f
  exact validBytes_l0 l m hl l.length k 0 (by omega) hk

theorem bytesAlone_val (l : List Int) : impl_bytesAlone.f l = some (okB l) := by
  unfold impl_bytesAlone.f okB
  congr 1
  induction l with
  | nil => rfl
  | cons x l ih =>
    rw [List.any_cons, List.all_cons, ← ih]
    have h : (decide (x < 0) || decide (x > 255)) = !(decide (0 ≤ x ∧ x ≤ 255)) := by
      by_cases h1 : x < 0
      · simp [h1]
      · by_cases h2 : x > 255
        · simp [h2]
        · simp [h1, h2]; omega
    rw [h, Bool.not_or, Bool.not_not]

theorem bytesOk_val (l : List Int) : impl_bytesOk.f l = some (okB l && decide (l.length ≤ 16)) := by
  unfold impl_bytesOk.f
  rw [bytesAlone_val]
  simp only [Option.bind_some]
  by_cases h : l.length ≤ 16
  · rw [if_pos (by omega)]; simp [h]
  · rw [if_neg (by omega)]; simp [h]

theorem within_val (x a b : Int) : impl_within.f x a b = some (decide (a ≤ x ∧ x ≤ b)) := by
  unfold impl_within.f
  by_cases h : a ≤ x
  · rw [if_pos h]; simp [h]
  · rw [if_neg h]; simp [h]

/-- A field that may be. -/
def okF1 (f : S62) : Bool := decide (0 ≤ f.f0 ∧ f.f0 ≤ 300) && (okB f.f1 && decide (f.f1.length ≤ 16))
def okF (l : List S62) : Bool := l.all okF1 && decide (l.length ≤ 5)

theorem rdT_nat (l : List S62) (i : Nat) (h : i < l.length) : rd_T62 l (i : Int) = l[i] := by
  unfold rd_T62
  rw [Int.toNat_natCast, List.getD_eq_getElem?_getD, List.getElem?_eq_getElem h]
  rfl

theorem fieldsOk1_val (x : Int) (l : List Int) : impl_fieldsOk_1.f x l = some (!(decide (0 ≤ x ∧ x ≤ 300) && (okB l && decide (l.length ≤ 16)))) := by
  unfold impl_fieldsOk_1.f
  simp only [within_val, bytesOk_val, Option.bind_some]
  cases decide (0 ≤ x ∧ x ≤ 300) <;> cases (okB l && decide (l.length ≤ 16)) <;> rfl

theorem fieldsOk_val (l : List S62) : impl_fieldsOk.f l = some (okF l) := by
  unfold impl_fieldsOk.f hand_Contains_fieldsOk.f okF
  have hany : (l.any fun x => (impl_fieldsOk_1.f x.f0 x.f1).getD false) = !(l.all okF1) := by
    induction l with
    | nil => rfl
    | cons x l ih =>
      rw [List.any_cons, List.all_cons, ih, fieldsOk1_val, Option.getD_some]
      show (!(okF1 x) || !(l.all okF1)) = !(okF1 x && l.all okF1)
      rw [Bool.not_and]
  rw [hany]
  simp only [Option.bind_some, Bool.not_not]
  by_cases h : l.length ≤ 5
  · rw [if_pos (by omega)]; simp [h]
  · rw [if_neg (by omega)]; simp [h]

theorem okF_iff (l : List S62) : okF l = true ↔ (∀ f ∈ l, 0 ≤ f.f0 ∧ f.f0 ≤ 300 ∧ okB f.f1 = true ∧ f.f1.length ≤ 16) ∧ l.length ≤ 5 := by
  simp only [okF, okF1, Bool.and_eq_true, List.all_eq_true, decide_eq_true_eq, and_assoc]

/-- The bytes of the last one of the first fields with a tag. -/
def lst (l : List S62) (tag : Int) : Nat → List Int × Bool
  | 0 => ([], false)
  | i + 1 => if (rd_T62 l (i : Int)).f0 = tag then ((rd_T62 l (i : Int)).f1, true) else lst l tag i

theorem implLast_l0 (l : List S62) (tag : Int) (hok : okF l = true) : ∀ (i k : Nat), i ≤ l.length → i < k → impl_LastOf.l0 k l tag ((i : Int) - 1) = some (lst l tag i) := by
  have hf := (okF_iff l).1 hok
  intro i
  induction i with
  | zero =>
    intro k hi hk
    obtain ⟨k, rfl⟩ : ∃ m, k = m + 1 := ⟨k - 1, by omega⟩
    rw [impl_LastOf.l0, if_neg (by omega)]
    rfl
  | succ i ih =>
    intro k hi hk
    obtain ⟨k, rfl⟩ : ∃ m, k = m + 1 := ⟨k - 1, by omega⟩
    rw [show ((i + 1 : Nat) : Int) - 1 = (i : Int) by omega, impl_LastOf.l0, if_pos (by omega), if_pos (by omega), if_pos (by omega), lst]
    have hm := hf.1 (l[i]'(by omega)) (List.getElem_mem _)
    rw [rdT_nat l i (by omega)]
    generalize l[i]'(by omega) = f at hm ⊢
    by_cases h : f.f0 = tag
    · rw [if_pos h, if_pos h]
      unfold slices_Clone_int_int.f
      rw [if_pos (by omega)]
      rfl
    · rw [if_neg h, if_neg h, IntWalk.wrap64_in ((i : Int) - 1) (by omega)]
      exact ih k (by omega) (by omega)

/-- What both return. -/
def lastB (l : List S62) (tag : Int) : List Int × Bool := if okF l = true then lst l tag l.length else ([], false)

theorem lst_length (l : List S62) (tag : Int) (hok : okF l = true) : ∀ i, i ≤ l.length → (lst l tag i).1.length ≤ 16
  | 0, _ => by simp [lst]
  | i + 1, hi => by
    unfold lst
    have hm := ((okF_iff l).1 hok).1 (l[i]'(by omega)) (List.getElem_mem _)
    rw [rdT_nat l i (by omega)]
    split
    · exact hm.2.2.2
    · exact lst_length l tag hok i (by omega)

theorem lastB_length (l : List S62) (tag : Int) : (lastB l tag).1.length ≤ 16 := by
  unfold lastB
  split
  · next h => exact lst_length l tag h _ (Nat.le_refl _)
  · simp

theorem implLast_ok (l : List S62) (tag : Int) (k : Nat) (hk : 20 ≤ k) : impl_LastOf.f k l tag = some (lastB l tag) := by
  unfold impl_LastOf.f lastB
  rw [fieldsOk_val]
  simp only [Option.bind_some]
  by_cases h : okF l = true
  · have hl := ((okF_iff l).1 h).2
    rw [if_pos h, if_pos h, IntWalk.wrap64_in ((l.length : Int) - 1) (by omega)]
    exact implLast_l0 l tag h l.length k (Nat.le_refl _) (by omega)
  · rw [if_neg h, if_neg h]

theorem validField_ok (x : Int) (l : List Int) (hl : l.length ≤ 2000000) (k : Nat) (hk : l.length < k) : spec_validField.f k x l = some (decide (0 ≤ x ∧ x ≤ 300) && (okB l && decide (l.length ≤ 16))) := by
  unfold spec_validField.f
  rw [inRange_val, validBytes_ok l 16 hl k hk]
  have e : decide ((l.length : Int) ≤ 16) = decide (l.length ≤ 16) := decide_eq_decide.mpr (by omega)
  rw [e]
  simp only [Option.bind_some]
  cases decide (0 ≤ x ∧ x ≤ 300) <;> rfl

theorem validFields_l0 (l : List S62) (hl : l.length ≤ 2000000) (hf : ∀ f ∈ l, f.f1.length ≤ 2000000) : ∀ (d k i : Nat), i + d = l.length → d + 2000002 ≤ k → spec_validFields.l0 k l (i : Int) = some ((l.drop i).all okF1 && decide (l.length ≤ 5)) := by
  intro d
  induction d with
  | zero =>
    intro k i hi hk
    obtain ⟨k, rfl⟩ : ∃ m, k = m + 1 := ⟨k - 1, by omega⟩
    rw [spec_validFields.l0, if_neg (by omega), List.drop_eq_nil_of_le (by omega)]
    have e : decide ((l.length : Int) ≤ 5) = decide (l.length ≤ 5) := decide_eq_decide.mpr (by omega)
    rw [e]
    simp
  | succ d ih =>
    intro k i hi hk
    obtain ⟨k, rfl⟩ : ∃ m, k = m + 1 := ⟨k - 1, by omega⟩
    have hm := hf (l[i]'(by omega)) (List.getElem_mem _)
    rw [spec_validFields.l0, if_pos (by omega), if_pos (by omega), step_nat i (by omega), rdT_nat l i (by omega), List.drop_eq_getElem_cons (by omega : i < l.length)]
    generalize l[i]'(by omega) = f at hm ⊢
    rw [validField_ok f.f0 f.f1 hm k (by omega), Option.bind_some, ih k (i + 1) (by omega) (by omega), List.all_cons]
    rw [show (decide (0 ≤ f.f0 ∧ f.f0 ≤ 300) && (okB f.f1 && decide (f.f1.length ≤ 16))) = okF1 f from rfl]
    cases okF1 f
    · simp
    · simp

theorem validFields_ok (l : List S62) (hl : l.length ≤ 2000000) (hf : ∀ f ∈ l, f.f1.length ≤ 2000000) (k : Nat) (hk : l.length + 2000002 ≤ k) : spec_validFields.f k l = some (okF l) := by
  unfold spec_validFields.f
  have := validFields_l0 l hl hf l.length k 0 (by omega) hk
  rw [List.drop_zero] at this
  exact this

theorem specLast_l0 (l : List S62) (tag : Int) (hok : okF l = true) : ∀ (i k : Nat), i ≤ l.length → i < k → spec_LastOf.l0 k l tag ((i : Int) - 1) = some (lst l tag i) := by
  have hf := (okF_iff l).1 hok
  intro i
  induction i with
  | zero =>
    intro k hi hk
    obtain ⟨k, rfl⟩ : ∃ m, k = m + 1 := ⟨k - 1, by omega⟩
    rw [spec_LastOf.l0, if_neg (by omega)]
    rfl
  | succ i ih =>
    intro k hi hk
    obtain ⟨k, rfl⟩ : ∃ m, k = m + 1 := ⟨k - 1, by omega⟩
    rw [show ((i + 1 : Nat) : Int) - 1 = (i : Int) by omega, spec_LastOf.l0, if_pos (by omega), if_pos (by omega), if_pos (by omega), lst]
    have hm := hf.1 (l[i]'(by omega)) (List.getElem_mem _)
    rw [rdT_nat l i (by omega)]
    generalize l[i]'(by omega) = f at hm ⊢
    by_cases h : f.f0 = tag
    · rw [if_pos h, if_pos h, Option.bind_some, if_pos (by rw [List.length_nil]; omega), List.nil_append]
    · rw [if_neg h, if_neg h, IntWalk.wrap64_in ((i : Int) - 1) (by omega)]
      exact ih k (by omega) (by omega)

theorem specLast_ok (l : List S62) (tag : Int) (hl : l.length ≤ 2000000) (hf : ∀ f ∈ l, f.f1.length ≤ 2000000) (k : Nat) (hk : l.length + 2000002 ≤ k) : spec_LastOf.f k l tag = some (lastB l tag) := by
  unfold spec_LastOf.f lastB
  rw [validFields_ok l hl hf k hk]
  simp only [Option.bind_some]
  by_cases h : okF l = true
  · rw [if_pos h, if_pos h, IntWalk.wrap64_in ((l.length : Int) - 1) (by omega)]
    exact specLast_l0 l tag h l.length k (Nat.le_refl _) (by omega)
  · rw [if_neg h, if_neg h]


theorem someFields_end (l : List Int) (hb : ∀ x ∈ l, 0 ≤ x ∧ x ≤ 255) (hn : l.length ≤ 2000) (k : Nat) (n : Nat) (o : List S62) (p : Int) (hno : n ≤ o.length) (hp : 0 ≤ p) (hp' : p ≤ 600000) (hf : ∀ f ∈ o, f.f1.length ≤ 33) :
    ∃ o' p', spec_someFields.l0 (k + 2) o (n : Int) l p = some (o', p') ∧ o'.length = o.length ∧ (∀ f ∈ o', f.f1.length ≤ 33) ∧ p ≤ p' ∧ p' ≤ p + 10 := by
  rw [spec_someFields.l0, if_neg (by omega)]
  by_cases h : (o.length : Int) > 0
  · rw [if_pos h]
    obtain ⟨v, hv, _, _⟩ := pick_ok l hb hn k p 24 hp (by omega)
    rw [hv, Option.bind_some]
    simp only []
    by_cases e : v = 0
    · obtain ⟨u, hu, _⟩ := one_ok l hb hn k (p + 1) [301, -1] (by omega) (by omega) (by simp)
      rw [if_pos e, hu, Option.bind_some]
      simp only []
      rw [if_pos h]
      refine ⟨_, _, rfl, by rw [List.length_set], fun f hfm => ?_, by omega, by omega⟩
      rcases List.mem_or_eq_of_mem_set hfm with h1 | h1
      · exact hf f h1
      · rw [h1]
        have h0 : 0 < o.length := by omega
        have e0 : rd_T62 o 0 = o[0] := rdT_nat o 0 h0
        rw [show (⟨u, (rd_T62 o 0).f1⟩ : S62).f1 = (rd_T62 o 0).f1 from rfl, e0]
        exact hf _ (List.getElem_mem h0)
    · rw [if_neg e]
      exact ⟨o, _, rfl, rfl, hf, by omega, by omega⟩
  · rw [if_neg h]
    exact ⟨o, p, rfl, rfl, hf, by omega, by omega⟩

theorem someFields_l0 (l : List Int) (hb : ∀ x ∈ l, 0 ≤ x ∧ x ≤ 255) (hn : l.length ≤ 2000) : ∀ (d k n : Nat) (o : List S62) (p : Int), d = n - o.length → d + 60 ≤ k → n ≤ 10 → o.length ≤ 10 → 0 ≤ p → p ≤ 500000 - 100 * d → (∀ f ∈ o, f.f1.length ≤ 33) →
    ∃ o' p', spec_someFields.l0 k o (n : Int) l p = some (o', p') ∧ o'.length ≤ 10 ∧ (∀ f ∈ o', f.f1.length ≤ 33) ∧ p ≤ p' ∧ p' ≤ p + 100 * d + 10 := by
  intro d
  induction d with
  | zero =>
    intro k n o p hd hk hn10 ho hp hp' hf
    obtain ⟨k, rfl⟩ : ∃ m, k = m + 2 := ⟨k - 2, by omega⟩
    obtain ⟨o', p', h1, h2, h3, h4, h5⟩ := someFields_end l hb hn k n o p (by omega) hp (by omega) hf
    exact ⟨o', p', h1, by omega, h3, h4, by omega⟩
  | succ d ih =>
    intro k n o p hd hk hn10 ho hp hp' hf
    obtain ⟨k, rfl⟩ : ∃ m, k = m + 1 + 1 := ⟨k - 2, by omega⟩
    obtain ⟨a, ha, _, _⟩ := pick_ok l hb hn k p 4 hp (by omega)
    obtain ⟨b, hb1, _, _⟩ := pick_ok l hb hn k (p + 1) 256 (by omega) (by omega)
    obtain ⟨c, hc, _⟩ := one_ok l hb hn k (p + 1 + 1) [a, b, 300, 128] (by omega) (by omega) (by simp)
    obtain ⟨y, q, hy, hyl, _, hq0, hq1⟩ := someBytes_ok l hb hn 6 (k + 1) (by omega) (p + 1 + 1 + 1) (by omega) (by omega)
    rw [spec_someFields.l0, if_pos (by omega), ha, Option.bind_some]
    simp only []
    rw [hb1, Option.bind_some]
    simp only []
    rw [hc, Option.bind_some]
    simp only []
    rw [hy, Option.bind_some]
    simp only []
    rw [if_pos (by omega)]
    obtain ⟨o', p', h1, h2, h3, h4, h5⟩ := ih (k + 1) n (o ++ [(⟨c, y⟩ : S62)]) q (by rw [List.length_append, List.length_singleton]; omega) (by omega) hn10 (by rw [List.length_append, List.length_singleton]; omega) (by omega) (by omega) (fun f hfm => by
      rcases List.mem_append.1 hfm with h | h
      · exact hf f h
      · rw [List.mem_singleton.1 h]; exact hyl)
    exact ⟨o', p', h1, h2, h3, by omega, by omega⟩

theorem draw_ok (l0 : List Int) (hw : ∀ x ∈ l0, (Lit.int .u8 x).wf = true) (k : Nat) (hk : 100 ≤ k) : ∃ l tag, spec_DrawLastOf.f k l0 = some (l, tag) ∧ l.length ≤ 10 ∧ (∀ f ∈ l, f.f1.length ≤ 33) := by
  obtain ⟨k, rfl⟩ : ∃ m, k = m + 1 := ⟨k - 1, by omega⟩
  obtain ⟨b, hr, hb, hn⟩ := reader_ok l0 hw
  obtain ⟨v, hv, hmem⟩ := one_ok b hb hn k 0 [2, 3, 1, 5, 0, 6] (by omega) (by omega) (by simp)
  have hvr : 0 ≤ v ∧ v ≤ 6 := by
    simp only [List.mem_cons, List.not_mem_nil, or_false] at hmem
    omega
  obtain ⟨m, rfl⟩ := Int.eq_ofNat_of_zero_le hvr.1
  obtain ⟨o, p, h1, h2, h3, h4, h5⟩ := someFields_l0 b hb hn m (k + 1) m [] (0 + 1) (by simp) (by omega) (by omega) (by simp) (by omega) (by omega) (by simp)
  obtain ⟨u, hu, _⟩ := one_ok b hb hn k p [0, 1, 2, 3, 300, 128, 301] (by omega) (by omega) (by simp)
  refine ⟨o, u, ?_, h2, h3⟩
  unfold spec_DrawLastOf.f spec_someFields.f
  simp only [hr, Option.bind_some, hv, h1, hu]

theorem lst_true (l : List S62) (tag : Int) : ∀ i, i ≤ l.length → (lst l tag i).2 = true → ∃ f ∈ l, f.f0 = tag
  | 0, _, h => by simp [lst] at h
  | i + 1, hi, h => by
    unfold lst at h
    rw [rdT_nat l i (by omega)] at h
    by_cases e : (l[i]'(by omega)).f0 = tag
    · exact ⟨_, List.getElem_mem _, e⟩
    · rw [if_neg e] at h
      exact lst_true l tag i (by omega) h

theorem lst_end (l : List S62) (tag : Int) (y : List Int) : lst (l ++ [(⟨tag, y⟩ : S62)]) tag (l ++ [(⟨tag, y⟩ : S62)]).length = (y, true) := by
  rw [List.length_append, List.length_singleton, lst, rdT_nat _ l.length (by simp), List.getElem_append_right (Nat.le_refl _)]
  simp

theorem FnLastOf : laws_FnLastOf.Pure := by
  intro l0 _ _ hw
  by_cases hc : (l0.length : Int) > 1048576
  · exact ⟨0, by unfold laws_FnLastOf.f; rw [if_pos hc]⟩
  · obtain ⟨K, hK⟩ : ∃ K : Nat, K = 3000000 := ⟨_, rfl⟩
    refine ⟨K + 1, ?_⟩
    obtain ⟨l, tag, hd, hlen, hf⟩ := draw_ok l0 hw (K + 1) (by omega)
    have hbl := lastB_length l tag
    unfold laws_FnLastOf.f
    rw [if_neg hc, hd, Option.bind_some]
    simp only []
    rw [implLast_ok l tag (K + 1) (by omega), Option.bind_some, specLast_ok l tag (by omega) (fun f h => by have := hf f h; omega) (K + 1) (by omega), Option.bind_some, equalInts_self _ (by omega) (K + 1) (by omega), Option.bind_some, if_pos rfl, bne_self_eq_false]
    simp only [Bool.false_eq_true, if_false]
    cases h2 : (lastB l tag).2 with
    | false =>
      rw [laws_FnLastOf.j0]
      simp only [Bool.not_false, if_true]
      rw [equalInts_self _ (by omega) K (by omega), Option.bind_some, if_pos rfl]
      rfl
    | true =>
      have hok : okF l = true := by
        cases hok : okF l with
        | true => rfl
        | false =>
          unfold lastB at h2
          rw [if_neg (by rw [hok]; decide)] at h2
          cases h2
      have hB : lastB l tag = lst l tag l.length := by unfold lastB; rw [if_pos hok]
      rw [hB] at h2
      obtain ⟨f, hfm, hft⟩ := lst_true l tag l.length (Nat.le_refl _) h2
      have hff := ((okF_iff l).1 hok).1 f hfm
      have hl5 := ((okF_iff l).1 hok).2
      rw [laws_FnLastOf.j0]
      simp only [Bool.not_true, Bool.false_eq_true, if_false]
      rw [Option.bind_some, if_pos (by rw [List.length_nil]; omega), Option.bind_some, List.nil_append, if_pos (by omega), implLast_ok _ tag K (by omega), Option.bind_some]
      by_cases h5 : (l.length : Int) = 5
      · rw [if_pos h5]
      · rw [if_neg h5]
        have hok2 : okF (l ++ [(⟨tag, [7]⟩ : S62)]) = true := by
          rw [okF_iff]
          refine ⟨fun g hg => ?_, by rw [List.length_append, List.length_singleton]; omega⟩
          rcases List.mem_append.1 hg with h | h
          · exact ((okF_iff l).1 hok).1 g h
          · rw [List.mem_singleton.1 h]
            refine ⟨by show 0 ≤ tag; omega, by show tag ≤ 300; omega, by rfl, by simp⟩
        have hB2 : lastB (l ++ [(⟨tag, [7]⟩ : S62)]) tag = ([7], true) := by
          unfold lastB
          rw [if_pos hok2, lst_end]
        rw [hB2]
        simp only [if_true]
        rw [equalInts_self [7] (by simp) K (by simp; omega)]
        rfl

end Go.Proofs.Ytnolmimfpnngjaa.Pure
