/- Numbers are written back: FnNumberAt returns true for every list of bytes. Conditions: none. -/
import Derived.Test.YtnolmimfpnngjaaHFnNumberAtx4
namespace Go.Proofs.Ytnolmimfpnngjaa.Pure
open Go.RowKit Go.Proofs.Ytnolmimfpnngjaa.HFnNumberAt Go.Proofs.YtnolmimfpnngjaaW.PrintWords Go.Proofs.YtnolmimfpnngjaaW.PrintLast
open Go
set_option linter.unusedVariables false
set_option linter.unusedSimpArgs false

theorem xor64_range (a b : Int) (ha : 0 ≤ a) (ha' : a < 1073741824) (hb : 0 ≤ b) (hb' : b < 1073741824) :
    0 ≤ Go.bits .xor .i64 a b ∧ Go.bits .xor .i64 a b < 1073741824 := by
  obtain ⟨m, rfl⟩ := Int.eq_ofNat_of_zero_le ha
  obtain ⟨n, rfl⟩ := Int.eq_ofNat_of_zero_le hb
  have hm : m < 2 ^ 30 := by omega
  have hn : n < 2 ^ 30 := by omega
  have hx : m ^^^ n < 2 ^ 30 := Nat.xor_lt_two_pow hm hn
  have hm' : m % 2 ^ IntKind.i64.bits = m := Nat.mod_eq_of_lt (Nat.lt_of_lt_of_le hm (by decide))
  have hn' : n % 2 ^ IntKind.i64.bits = n := Nat.mod_eq_of_lt (Nat.lt_of_lt_of_le hn (by decide))
  simp only [Go.bits, BitVec.ofInt_natCast, BitVec.toNat_xor, BitVec.toNat_ofNat, hm', hn']
  rw [IntWalk.i64_in ((m ^^^ n : Nat) : Int) (by omega)]
  omega

theorem rd_range (l : List Int) (hl : ∀ x ∈ l, 0 ≤ x ∧ x ≤ 255) (i : Int) : 0 ≤ rd l i ∧ rd l i ≤ 255 := by
  unfold rd
  rw [List.getD_eq_getElem?_getD]
  cases h : l[i.toNat]? with
  | none => simp
  | some v => exact hl v (List.mem_of_getElem? h)

theorem tmod_range (a n : Int) (ha : 0 ≤ a) (hn : 1 ≤ n) : 0 ≤ Int.tmod a n ∧ Int.tmod a n < n :=
  ⟨Int.tmod_nonneg n ha, Int.tmod_lt_of_pos a (by omega)⟩

theorem pick_ok (l : List Int) (hl : ∀ x ∈ l, 0 ≤ x ∧ x ≤ 255) (hn : l.length ≤ 2000) (k : Nat) (p n : Int) (hp : 0 ≤ p) (hp' : p ≤ 1000000) :
    ∃ v, spec_reader_pick.f (k + 1) l p n = some (v, p + 1) ∧ 0 ≤ v ∧ (1 ≤ n → v < n) := by
  have hw : wrap64 (p + 1) = p + 1 := IntWalk.wrap64_in _ (by omega)
  unfold spec_reader_pick.f
  rw [hw]
  by_cases h1 : n < 1
  · rw [if_pos h1]
    exact ⟨0, by simp [spec_reader_pick.j0], by omega, fun h => by omega⟩
  · rw [if_neg h1]
    by_cases h2 : l.length = 0
    · exact ⟨0, by simp [spec_reader_pick.j0, h2], by omega, fun h => by omega⟩
    · have hb : ((l.length : Int) == 0) = false := beq_eq_false_iff_ne.mpr (by omega)
      have hw1 : wrap64 (p + 1 - 1) = p := (IntWalk.wrap64_in (p + 1 - 1) (by omega)).trans (by omega)
      have hn0 : n ≠ 0 := by omega
      have hl0 : (l.length : Int) ≠ 0 := by omega
      simp only [spec_reader_pick.j0, hb, hw1, Bool.false_eq_true, if_false, hn0, hl0]
      by_cases h3 : p < (l.length : Int)
      · rw [if_pos h3, if_pos hp]
        have hr := rd_range l hl p
        rw [IntWalk.wrap64_in (rd l p) (by omega)]
        have ht := tmod_range (rd l p) n hr.1 (by omega)
        exact ⟨_, rfl, ht.1, fun _ => ht.2⟩
      · rw [if_neg h3]
        have hm1 := tmod_range p (l.length : Int) hp (by omega)
        rw [if_pos hm1.1, if_pos hm1.2]
        have hw7 : wrap64 (p * 7) = p * 7 := IntWalk.wrap64_in _ (by omega)
        have hw73 : wrap64 (p * 7 + 3) = p * 7 + 3 := IntWalk.wrap64_in _ (by omega)
        rw [hw7, hw73]
        have hm2 := tmod_range (p * 7 + 3) (l.length : Int) (by omega) (by omega)
        rw [if_pos hm2.1, if_pos hm2.2]
        have hr1 := rd_range l hl (Int.tmod p (l.length : Int))
        have hr2 := rd_range l hl (Int.tmod (p * 7 + 3) (l.length : Int))
        generalize rd l (Int.tmod p (l.length : Int)) = r1 at hr1 ⊢
        generalize rd l (Int.tmod (p * 7 + 3) (l.length : Int)) = r2 at hr2 ⊢
        have hq : 0 ≤ Int.tdiv p (l.length : Int) ∧ Int.tdiv p (l.length : Int) ≤ p := by
          rw [Int.tdiv_eq_ediv_of_nonneg hp]
          exact ⟨Int.ediv_nonneg hp (by omega), Int.ediv_le_self _ hp⟩
        generalize Int.tdiv p (l.length : Int) = q at hq ⊢
        simp (disch := omega) only [IntWalk.wrap64_in]
        have hX : 0 ≤ r1 * 131 + r2 * 1117 + p * 29 + q * 53 ∧ r1 * 131 + r2 * 1117 + p * 29 + q * 53 < 1073741824 := by omega
        generalize r1 * 131 + r2 * 1117 + p * 29 + q * 53 = X at hX ⊢
        have hd : 0 ≤ Int.tdiv X 64 ∧ Int.tdiv X 64 < 1073741824 := by
          rw [Int.tdiv_eq_ediv_of_nonneg hX.1]; omega
        rw [IntWalk.wrap64_in (Int.tdiv X 64) (by omega)]
        have hx := xor64_range X (Int.tdiv X 64) hX.1 hX.2 hd.1 hd.2
        have ht := tmod_range (Go.bits .xor .i64 X (Int.tdiv X 64)) n hx.1 (by omega)
        exact ⟨_, rfl, ht.1, fun _ => ht.2⟩

theorem reader_ok (l0 : List Int) (hw : ∀ x ∈ l0, (Lit.int .u8 x).wf = true) :
    ∃ l, spec_newReader.f l0 = some (l, 0) ∧ (∀ x ∈ l, 0 ≤ x ∧ x ≤ 255) ∧ l.length ≤ 2000 := by
  have hb : ∀ x ∈ l0, 0 ≤ x ∧ x ≤ 255 := by
    intro x hx
    have h := hw x hx
    simp [Lit.wf, IntKind.min, IntKind.max, IntKind.signed, IntKind.bits] at h
    omega
  unfold spec_newReader.f
  by_cases h : (l0.length : Int) > 2000
  · rw [if_pos h, if_pos (by omega)]
    exact ⟨_, rfl, fun x hx => hb x (List.mem_of_mem_take hx), by rw [List.length_take]; omega⟩
  · rw [if_neg h]
    exact ⟨_, rfl, hb, by omega⟩

theorem one_ok (l : List Int) (hl : ∀ x ∈ l, 0 ≤ x ∧ x ≤ 255) (hn : l.length ≤ 2000) (k : Nat) (p : Int) (xs : List Int) (hp : 0 ≤ p) (hp' : p ≤ 1000000) (hx : 1 ≤ xs.length) :
    ∃ v, spec_reader_one.f (k + 1) l p xs = some (v, p + 1) ∧ v ∈ xs := by
  obtain ⟨v, hv, h0, h1⟩ := pick_ok l hl hn k p (xs.length : Int) hp hp'
  have h2 := h1 (by omega)
  unfold spec_reader_one.f
  rw [hv]
  simp only [Option.bind_some]
  rw [if_pos h0, if_pos h2]
  refine ⟨_, rfl, ?_⟩
  unfold rd
  have h3 : v.toNat < xs.length := by omega
  rw [List.getD_eq_getElem?_getD, List.getElem?_eq_getElem h3]
  exact List.getElem_mem h3

theorem someBytes_end (l : List Int) (hb : ∀ x ∈ l, 0 ≤ x ∧ x ≤ 255) (hn : l.length ≤ 2000) (most : Int) (k : Nat) (o : List Int) (n p : Int) (hp : 0 ≤ p) (hp' : p ≤ 900000) (ho : o.length ≤ 1000) (hx : ∀ x ∈ o, -1 ≤ x ∧ x ≤ 256) :
    ∃ o' p', spec_someBytes.j1 (k + 2) most o n false l p = some (o', p') ∧ o'.length ≤ o.length + 17 ∧ (∀ x ∈ o', -1 ≤ x ∧ x ≤ 256) ∧ p ≤ p' ∧ p' ≤ p + 1 := by
  obtain ⟨v, hv, h0, h1⟩ := pick_ok l hb hn k p 30 hp (by omega)
  simp only [spec_someBytes.j1, Bool.false_eq_true, if_false, hv, Option.bind_some]
  have happ : ∀ y : List Int, (∀ x ∈ y, -1 ≤ x ∧ x ≤ 256) → ∀ x ∈ o ++ y, -1 ≤ x ∧ x ≤ 256 := fun y hy x hxx => by
    rcases List.mem_append.1 hxx with h | h
    · exact hx x h
    · exact hy x h
  by_cases e0 : v = 0
  · rw [if_pos e0, if_pos (by omega)]
    exact ⟨_, _, rfl, by simp, happ _ (by simp), by omega, by omega⟩
  · rw [if_neg e0]
    by_cases e1 : v = 1
    · rw [if_pos e1, if_pos (by omega)]
      exact ⟨_, _, rfl, by simp, happ _ (by simp), by omega, by omega⟩
    · rw [if_neg e1]
      by_cases e2 : v = 2
      · rw [if_pos e2, if_pos (by simp; omega)]
        exact ⟨_, _, rfl, by simp, happ _ (by simp), by omega, by omega⟩
      · rw [if_neg e2]
        exact ⟨_, _, rfl, by omega, hx, by omega, by omega⟩

theorem someBytes_l0 (l : List Int) (hb : ∀ x ∈ l, 0 ≤ x ∧ x ≤ 255) (hn : l.length ≤ 2000) (most : Int) : ∀ (n k : Nat) (o : List Int) (p : Int), 2 * n + 4 ≤ k → n ≤ 16 → 0 ≤ p → p ≤ 800000 - 3 * n → o.length + n ≤ 900 → (∀ x ∈ o, -1 ≤ x ∧ x ≤ 256) →
    ∃ o' p', spec_someBytes.l0 k most o (n : Int) l p = some (o', p') ∧ o'.length ≤ o.length + n + 17 ∧ (∀ x ∈ o', -1 ≤ x ∧ x ≤ 256) ∧ p ≤ p' ∧ p' ≤ p + 3 * n + 1 := by
  intro n
  induction n with
  | zero =>
    intro k o p hk _ hp hp' ho hx
    obtain ⟨k, rfl⟩ : ∃ m, k = m + 1 + 2 := ⟨k - 3, by omega⟩
    simp only [spec_someBytes.l0]
    rw [if_neg (by omega)]
    obtain ⟨o', p', h1, h2, h3, h4, h5⟩ := someBytes_end l hb hn most k o ((0 : Nat) : Int) p hp (by omega) (by omega) hx
    exact ⟨o', p', h1, by omega, h3, h4, by omega⟩
  | succ n ih =>
    intro k o p hk hn16 hp hp' ho hx
    obtain ⟨k, rfl⟩ : ∃ m, k = m + 1 + 2 := ⟨k - 3, by omega⟩
    simp only [spec_someBytes.l0]
    rw [if_pos (by omega)]
    by_cases hm : (o.length : Int) < most
    · rw [decide_eq_true hm]
      obtain ⟨a, ha, ha0, ha1⟩ := pick_ok l hb hn k p 256 hp (by omega)
      obtain ⟨b, hb1, hb0, hb2⟩ := pick_ok l hb hn k (p + 1) 4 (by omega) (by omega)
      obtain ⟨c, hc, hmem⟩ := one_ok l hb hn k (p + 1 + 1) [a, 0, 192, 219, b, 255] (by omega) (by omega) (by simp)
      have hcr : -1 ≤ c ∧ c ≤ 256 := by
        have h1 := ha1 (by omega)
        have h2 := hb2 (by omega)
        simp only [List.mem_cons, List.not_mem_nil, or_false] at hmem
        omega
      simp only [spec_someBytes.j1, if_true, ha, hb1, hc, Option.bind_some]
      rw [if_pos (by omega), (IntWalk.wrap64_in (((n + 1 : Nat) : Int) - 1) (by omega)).trans (show ((n + 1 : Nat) : Int) - 1 = (n : Int) by omega)]
      obtain ⟨o', p', h1, h2, h3, h4, h5⟩ := ih (k + 1) (o ++ [c]) (p + 1 + 1 + 1) (by omega) (by omega) (by omega) (by omega) (by rw [List.length_append, List.length_singleton]; omega) (fun x hxx => by
        rcases List.mem_append.1 hxx with h | h
        · exact hx x h
        · rw [List.mem_singleton.1 h]; exact hcr)
      rw [List.length_append, List.length_singleton] at h2
      exact ⟨o', p', h1, by omega, h3, by omega, by omega⟩
    · rw [decide_eq_false hm]
      obtain ⟨o', p', h1, h2, h3, h4, h5⟩ := someBytes_end l hb hn most k o ((n + 1 : Nat) : Int) p hp (by omega) (by omega) hx
      exact ⟨o', p', h1, by omega, h3, h4, by omega⟩

theorem someBytes_ok (l : List Int) (hb : ∀ x ∈ l, 0 ≤ x ∧ x ≤ 255) (hn : l.length ≤ 2000) (most : Int) (k : Nat) (hk : 40 ≤ k) (p : Int) (hp : 0 ≤ p) (hp' : p ≤ 700000) :
    ∃ o' p', spec_someBytes.f k l p most = some (o', p') ∧ o'.length ≤ 33 ∧ (∀ x ∈ o', -1 ≤ x ∧ x ≤ 256) ∧ p ≤ p' ∧ p' ≤ p + 50 := by
  obtain ⟨k, rfl⟩ : ∃ m, k = m + 1 := ⟨k - 1, by omega⟩
  obtain ⟨v, hv, hmem⟩ := one_ok l hb hn k p [4, 6, 3, 8, 2, 1, 0, 16] hp (by omega) (by simp)
  have hvr : 0 ≤ v ∧ v ≤ 16 := by
    simp only [List.mem_cons, List.not_mem_nil, or_false] at hmem
    omega
  obtain ⟨m, rfl⟩ := Int.eq_ofNat_of_zero_le hvr.1
  unfold spec_someBytes.f
  simp only [hv, Option.bind_some]
  obtain ⟨o', p', h1, h2, h3, h4, h5⟩ := someBytes_l0 l hb hn most m (k + 1) [] (p + 1) (by omega) (by omega) (by omega) (by omega) (by simp; omega) (by simp)
  simp only [List.length_nil] at h2
  exact ⟨o', p', h1, by omega, h3, by omega, by omega⟩

theorem rd_nat (l : List Int) (i : Nat) (h : i < l.length) : rd l (i : Int) = l[i] := by
  unfold rd
  rw [Int.toNat_natCast, List.getD_eq_getElem?_getD, List.getElem?_eq_getElem h]
  rfl

theorem step_nat (i : Nat) (h : i < 4611686018427387904) : wrap64 ((i : Int) + 1) = ((i + 1 : Nat) : Int) := by
  rw [IntWalk.wrap64_in ((i : Int) + 1) (by omega)]
  rfl

theorem equalInts_l0 (a b : List Int) (hab : a.length = b.length) (hl : a.length ≤ 2000000) : ∀ (d k i : Nat), i + d = a.length → d < k → laws_equalInts.l0 k a b (i : Int) = some (decide (a.drop i = b.drop i)) := by
  intro d
  induction d with
  | zero =>
    intro k i hi hk
    obtain ⟨k, rfl⟩ : ∃ m, k = m + 1 := ⟨k - 1, by omega⟩
    simp only [laws_equalInts.l0]
    rw [if_neg (by omega), List.drop_eq_nil_of_le (by omega), List.drop_eq_nil_of_le (by omega)]
    rfl
  | succ d ih =>
    intro k i hi hk
    obtain ⟨k, rfl⟩ : ∃ m, k = m + 1 := ⟨k - 1, by omega⟩
    simp only [laws_equalInts.l0]
    rw [if_pos (by omega), if_pos (by omega), if_pos (by omega), step_nat i (by omega), rd_nat a i (by omega), rd_nat b i (by omega)]
    rw [List.drop_eq_getElem_cons (by omega : i < a.length), List.drop_eq_getElem_cons (by omega : i < b.length)]
    by_cases e : a[i]'(by omega) = b[i]'(by omega)
    · rw [if_pos e, ih k (i + 1) (by omega) (by omega), e]
      exact congrArg some (decide_eq_decide.mpr ⟨fun h => by rw [h], fun h => (List.cons.inj h).2⟩)
    · rw [if_neg e]
      exact congrArg some (decide_eq_false (fun h => e (List.cons.inj h).1)).symm

theorem equalInts_ok (a b : List Int) (hl : a.length ≤ 2000000) (k : Nat) (hk : a.length < k) : laws_equalInts.f k a b = some (decide (a = b)) := by
  unfold laws_equalInts.f
  by_cases h : a.length = b.length
  · rw [if_pos (by omega)]
    exact equalInts_l0 a b h hl a.length k 0 (by omega) hk
  · rw [if_neg (by omega), decide_eq_false (fun e => h (by rw [e]))]

theorem equalInts_self (a : List Int) (hl : a.length ≤ 2000000) (k : Nat) (hk : a.length < k) : laws_equalInts.f k a a = some true := by
  rw [equalInts_ok a a hl k hk, decide_eq_true rfl]

/-- Numbers of one byte. -/
def okB (l : List Int) : Bool := l.all fun x => decide (0 ≤ x ∧ x ≤ 255)

theorem okB_iff (l : List Int) : okB l = true ↔ ∀ x ∈ l, 0 ≤ x ∧ x ≤ 255 := by simp [okB]

theorem inRange_val (x a b : Int) : spec_inRange.f x a b = some (decide (a ≤ x ∧ x ≤ b)) := by
  unfold spec_inRange.f
  by_cases h : a ≤ x
  · rw [if_pos h]; simp [h]
  · rw [if_neg h]; simp [h]

theorem validBytes_l0 (l : List Int) (m : Int) (hl : l.length ≤ 2000000) : ∀ (d k i : Nat), i + d = l.length → d < k → spec_validBytes.l0 k l m (i : Int) = some (okB (l.drop i) && decide ((l.length : Int) ≤ m)) := by
  intro d
  induction d with
  | zero =>
    intro k i hi hk
    obtain ⟨k, rfl⟩ : ∃ m, k = m + 1 := ⟨k - 1, by omega⟩
    simp only [spec_validBytes.l0]
    rw [if_neg (by omega), List.drop_eq_nil_of_le (by omega)]
    simp [okB]
  | succ d ih =>
    intro k i hi hk
    obtain ⟨k, rfl⟩ : ∃ m, k = m + 1 := ⟨k - 1, by omega⟩
    simp only [spec_validBytes.l0]
    rw [if_pos (by omega), if_pos (by omega), step_nat i (by omega), rd_nat l i (by omega), inRange_val]
    rw [List.drop_eq_getElem_cons (by omega : i < l.length)]
    simp only [Option.bind_some]
    by_cases e : 0 ≤ l[i]'(by omega) ∧ l[i]'(by omega) ≤ 255
    · rw [if_pos (decide_eq_true e), ih k (i + 1) (by omega) (by omega)]
      have h : okB (l[i]'(by omega) :: l.drop (i + 1)) = okB (l.drop (i + 1)) := by
        unfold okB
        rw [List.all_cons, decide_eq_true e, Bool.true_and]
      rw [h]
    · rw [if_neg (by simpa using e)]
      have h : okB (l[i]'(by omega) :: l.drop (i + 1)) = false := by
        unfold okB
        rw [List.all_cons, decide_eq_false e, Bool.false_and]
      rw [h, Bool.false_and]

theorem validBytes_ok (l : List Int) (m : Int) (hl : l.length ≤ 2000000) (k : Nat) (hk : l.length < k) : spec_validBytes.f k l m = some (okB l && decide ((l.length : Int) ≤ m)) := by
  unfold spec_validBytes.f
  exact validBytes_l0 l m hl l.length k 0 (by omega) hk

theorem bytesAlone_val (l : List Int) : impl_bytesAlone.f l = some (okB l) := by
  unfold impl_bytesAlone.f okB
  congr 1
  induction l with
  | nil => rfl
  | cons x l ih =>
    rw [List.any_cons, List.all_cons, ← ih]
    have h : (decide (x < 0) || decide (x > 255)) = !(decide (0 ≤ x ∧ x ≤ 255)) := by
      by_cases h1 : x < 0
      · simp [h1]
      · by_cases h2 : x > 255
        · simp [h2]
        · simp [h1, h2]; omega
    rw [h, Bool.not_or, Bool.not_not]

theorem bytesOk_val (l : List Int) : impl_bytesOk.f l = some (okB l && decide (l.length ≤ 16)) := by
  unfold impl_bytesOk.f
  rw [bytesAlone_val]
  simp only [Option.bind_some]
  by_cases h : l.length ≤ 16
  · rw [if_pos (by omega)]; simp [h]
  · rw [if_neg (by omega)]; simp [h]

/-- The bytes of a number by seven bits; the first number bounds how many. -/
def gr : Nat → Int → List Int
  | 0, x => [x]
  | f + 1, x => if x > 127 then (x % 128 + 128) :: gr f (x / 128) else [x]

theorem gr_length : ∀ (f : Nat) (x : Int), (gr f x).length ≤ f + 1
  | 0, _ => by simp [gr]
  | f + 1, x => by
    unfold gr
    split
    · have := gr_length f (x / 128)
      simp only [List.length_cons]
      omega
    · simp

theorem gr1 (f : Nat) (x : Int) (h : x ≤ 127) : gr (f + 1) x = [x] := by
  unfold gr
  rw [if_neg (by omega)]

theorem grS (f : Nat) (x : Int) (h : 128 ≤ x) : gr (f + 1) x = (x % 128 + 128) :: gr f (x / 128) := by
  rw [gr, if_pos (by omega)]

theorem gr2 (f : Nat) (x : Int) (h : 128 ≤ x) (h2 : x < 16384) : gr (f + 2) x = [x % 128 + 128, x / 128] := by
  rw [grS (f + 1) x h, gr1 f (x / 128) (by omega)]

theorem gr3 (f : Nat) (x : Int) (h : 16384 ≤ x) (h2 : x < 2097152) : gr (f + 3) x = [x % 128 + 128, x / 128 % 128 + 128, x / 128 / 128] := by
  rw [grS (f + 2) x (by omega), gr2 f (x / 128) (by omega) (by omega)]

theorem gr4 (f : Nat) (x : Int) (h : 2097152 ≤ x) (h2 : x < 268435456) : gr (f + 4) x = [x % 128 + 128, x / 128 % 128 + 128, x / 128 / 128 % 128 + 128, x / 128 / 128 / 128] := by
  rw [grS (f + 3) x (by omega), gr3 f (x / 128) (by omega) (by omega)]

theorem implGr_l0 : ∀ (f k : Nat) (x : Int) (o : List Int), f < k → 0 ≤ x → x < 128 ^ (f + 1) → x < 9223372036854775808 → o.length + f ≤ 1000 → impl_groups.l0 k x o = some (o ++ gr f x) := by
  intro f
  induction f with
  | zero =>
    intro k x o hk h0 h1 h2 ho
    obtain ⟨k, rfl⟩ : ∃ m, k = m + 1 := ⟨k - 1, by omega⟩
    rw [impl_groups.l0, if_neg (by omega), if_pos (by omega)]
    rfl
  | succ f ih =>
    intro k x o hk h0 h1 h2 ho
    obtain ⟨k, rfl⟩ : ∃ m, k = m + 1 := ⟨k - 1, by omega⟩
    rw [impl_groups.l0]
    by_cases h : x > 127
    · rw [if_pos (by omega), if_pos (by omega), Int.tdiv_eq_ediv_of_nonneg h0, Int.tmod_eq_emod_of_nonneg h0, IntWalk.wrap64_in (x / 128) (by omega), IntWalk.wrap64_in _ (by omega)]
      have hp : (128 : Int) ^ (f + 1 + 1) = 128 * 128 ^ (f + 1) := by rw [Int.pow_succ, Int.mul_comm]
      rw [ih k (x / 128) _ (by omega) (by omega) (by rw [hp] at h1; omega) (by omega) (by rw [List.length_append, List.length_singleton]; omega)]
      rw [gr, if_pos h, List.append_assoc]
      simp [Int.add_comm]
    · rw [if_neg (by omega), if_pos (by omega), gr, if_neg h]

theorem implGr_ok (x : Int) (h0 : 0 ≤ x) (h1 : x < 9223372036854775808) (k : Nat) (hk : 10 ≤ k) : impl_groups.f k x = some (gr 9 x) := by
  unfold impl_groups.f
  have := implGr_l0 9 k x [] (by omega) h0 (by omega) h1 (by simp)
  rw [List.nil_append] at this
  exact this

/-- The number told by bytes from place i on, x up to now and the unit B. -/
def numAt : Nat → List Int → Int → Int → Nat → Int × Int
  | 0, _, _, _, _ => (0, 0)
  | _ + 1, [], _, _, _ => (0, 0)
  | f + 1, b :: t, x, B, i =>
    if b < 128 then (if i > 0 ∧ b = 0 then (0, 0) else if x + b % 128 * B > 1000000 then (0, 0) else (x + b % 128 * B, (i : Int) + 1))
    else numAt f t (x + b % 128 * B) (B * 128) (i + 1)

/-- The units. -/
def isUnit (i : Nat) (B : Int) : Prop := (i = 0 ∧ B = 1) ∨ (i = 1 ∧ B = 128) ∨ (i = 2 ∧ B = 16384) ∨ (i = 3 ∧ B = 2097152) ∨ (i = 4 ∧ B = 268435456)

theorem gr_len_iff (i : Nat) (B x c : Int) (hB : isUnit i B) (hi : i < 4) (hx0 : 0 ≤ x) (hx1 : x < B) (hc0 : 0 ≤ c) (hc1 : c < 128) : ((gr 9 (x + c * B)).length : Int) = (i : Int) + 1 ↔ ¬ (i > 0 ∧ c = 0) := by
  rcases hB with ⟨e1, e2⟩ | ⟨e1, e2⟩ | ⟨e1, e2⟩ | ⟨e1, e2⟩ | ⟨e1, e2⟩
  · subst e1; subst e2
    rw [gr1 8 _ (by omega)]
    simp
  · subst e1; subst e2
    by_cases h : c = 0
    · rw [gr1 8 _ (by omega)]
      simp [h]
    · rw [gr2 7 _ (by omega) (by omega)]
      simp [h]
  · subst e1; subst e2
    by_cases h : c = 0
    · by_cases h2 : x < 128
      · rw [gr1 8 _ (by omega)]
        simp [h]
      · rw [gr2 7 _ (by omega) (by omega)]
        simp [h]
    · rw [gr3 6 _ (by omega) (by omega)]
      simp [h]
  · subst e1; subst e2
    by_cases h : c = 0
    · by_cases h2 : x < 128
      · rw [gr1 8 _ (by omega)]
        simp [h]
      · by_cases h3 : x < 16384
        · rw [gr2 7 _ (by omega) (by omega)]
          simp [h]
        · rw [gr3 6 _ (by omega) (by omega)]
          simp [h]
    · rw [gr4 5 _ (by omega) (by omega)]
      simp [h]
  · omega

theorem unit_next (i : Nat) (B : Int) (hB : isUnit i B) (hi : i < 4) : isUnit (i + 1) (B * 128) := by
  unfold isUnit at hB ⊢
  omega

theorem unit_step (i : Nat) (B x c : Int) (hB : isUnit i B) (hi : i < 4) (hx0 : 0 ≤ x) (hx1 : x < B) (hc0 : 0 ≤ c) (hc1 : c < 128) : 0 ≤ c * B ∧ c * B ≤ 266338304 ∧ 0 ≤ x + c * B ∧ x + c * B < B * 128 ∧ 1 ≤ B ∧ B ≤ 2097152 := by
  rcases hB with ⟨e1, e2⟩ | ⟨e1, e2⟩ | ⟨e1, e2⟩ | ⟨e1, e2⟩ | ⟨e1, e2⟩ <;> subst e2 <;> omega

theorem implNum_l0 (l : List Int) (hb : ∀ x ∈ l, 0 ≤ x ∧ x ≤ 255) (hl : l.length ≤ 2000000) : ∀ (f k i : Nat) (x B : Int), i + f = 4 → 2 * f + 20 ≤ k → isUnit i B → 0 ≤ x → x < B → impl_numberAt.l0 k l x B (i : Int) = some (numAt f (l.drop i) x B i) := by
  intro f
  induction f with
  | zero =>
    intro k i x B hi hk hB hx0 hx1
    obtain ⟨k, rfl⟩ : ∃ m, k = m + 2 := ⟨k - 2, by omega⟩
    rw [impl_numberAt.l0, decide_eq_false (by omega)]
    rw [impl_numberAt.j1]
    simp [numAt]
  | succ f ih =>
    intro k i x B hi hk hB hx0 hx1
    obtain ⟨k, rfl⟩ : ∃ m, k = m + 2 := ⟨k - 2, by omega⟩
    rw [impl_numberAt.l0]
    by_cases h : i < l.length
    · rw [if_pos (by omega), decide_eq_true (by omega), impl_numberAt.j1]
      simp only [if_true]
      have hx := hb (l[i]'h) (List.getElem_mem h)
      rw [if_pos (by omega), if_pos (by omega), step_nat i (by omega), rd_nat l i h, List.drop_eq_getElem_cons h]
      generalize l[i]'h = b at hx ⊢
      rw [Int.tmod_eq_emod_of_nonneg hx.1]
      have hu := unit_step i B x (b % 128) hB (by omega) hx0 hx1 (by omega) (by omega)
      rw [IntWalk.wrap64_in (b % 128 * B) (by omega), IntWalk.wrap64_in (x + b % 128 * B) (by omega), IntWalk.wrap64_in (B * 128) (by omega)]
      by_cases h1 : b < 128
      · rw [if_pos h1, numAt, if_pos h1]
        have hlen := gr_len_iff i B x (b % 128) hB (by omega) hx0 hx1 (by omega) (by omega)
        by_cases h2 : x + b % 128 * B > 1000000
        · rw [if_pos h2]
          by_cases h3 : i > 0 ∧ b = 0
          · rw [if_pos h3]
          · rw [if_neg h3, if_pos h2]
        · rw [if_neg h2, implGr_ok _ (by omega) (by omega) k (by omega)]
          simp only [Option.bind_some]
          by_cases h3 : i > 0 ∧ b = 0
          · rw [if_neg (fun h4 => hlen.1 (by omega) (by omega)), if_pos h3]
          · rw [if_pos ((hlen.2 (by omega)).trans (by omega)), if_neg h3, if_neg h2]
            rw [show ((i + 1 : Nat) : Int) = (i : Int) + 1 by omega]
      · rw [if_neg h1, numAt, if_neg h1]
        exact ih k (i + 1) _ _ (by omega) (by omega) (unit_next i B hB (by omega)) (by omega) (by omega)
    · rw [if_neg (by omega), impl_numberAt.j1, List.drop_eq_nil_of_le (by omega)]
      simp [numAt]

/-- What both return. -/
def numB (l : List Int) : Int × Int := if okB l = true ∧ l.length ≤ 16 then numAt 4 l 0 1 0 else (0, 0)

theorem implNumberAt_ok (l : List Int) (k : Nat) (hk : 40 ≤ k) : impl_NumberAt.f k l = some (numB l) := by
  unfold impl_NumberAt.f numB
  rw [bytesOk_val]
  simp only [Option.bind_some, Bool.and_eq_true, decide_eq_true_eq]
  by_cases h : okB l = true ∧ l.length ≤ 16
  · rw [if_pos h, if_pos h]
    unfold impl_numberAt.f
    have := implNum_l0 l ((okB_iff l).1 h.1) (by omega) 4 k 0 0 1 (by omega) (by omega) (.inl ⟨rfl, rfl⟩) (by omega) (by omega)
    rw [show ((0 : Nat) : Int) = 0 from rfl, List.drop_zero] at this
    rw [this]
    rfl
  · rw [if_neg h, if_neg h]

theorem specNum_l0 (l : List Int) (hb : ∀ x ∈ l, 0 ≤ x ∧ x ≤ 255) (hl : l.length ≤ 2000000) : ∀ (f k i : Nat) (x B : Int), i + f = 4 → 2 * f + 20 ≤ k → isUnit i B → 0 ≤ x → x < B → spec_readGroups.l0 k l x B (i : Int) = some (numAt f (l.drop i) x B i) := by
  intro f
  induction f with
  | zero =>
    intro k i x B hi hk hB hx0 hx1
    obtain ⟨k, rfl⟩ : ∃ m, k = m + 2 := ⟨k - 2, by omega⟩
    rw [spec_readGroups.l0, decide_eq_false (by omega)]
    rw [spec_readGroups.j1]
    simp [numAt]
  | succ f ih =>
    intro k i x B hi hk hB hx0 hx1
    obtain ⟨k, rfl⟩ : ∃ m, k = m + 2 := ⟨k - 2, by omega⟩
    rw [spec_readGroups.l0]
    by_cases h : i < l.length
    · rw [if_pos (by omega), decide_eq_true (by omega), spec_readGroups.j1]
      simp only [if_true]
      have hx := hb (l[i]'h) (List.getElem_mem h)
      rw [if_pos (by omega), if_pos (by omega), step_nat i (by omega), rd_nat l i h, List.drop_eq_getElem_cons h]
      generalize l[i]'h = b at hx ⊢
      rw [Int.tmod_eq_emod_of_nonneg hx.1]
      have hu := unit_step i B x (b % 128) hB (by omega) hx0 hx1 (by omega) (by omega)
      rw [IntWalk.wrap64_in (b % 128 * B) (by omega), IntWalk.wrap64_in (x + b % 128 * B) (by omega), IntWalk.wrap64_in (128 * B) (by omega)]
      by_cases h1 : b < 128
      · rw [if_pos h1, numAt, if_pos h1]
        rw [show ((i + 1 : Nat) : Int) = (i : Int) + 1 by omega]
        by_cases h4 : (i : Int) > 0
        · rw [if_pos h4]
          by_cases h5 : b = 0
          · rw [if_pos h5, if_pos ⟨by omega, h5⟩]
          · rw [if_neg h5, if_neg (show ¬ (i > 0 ∧ b = 0) from fun e => h5 e.2)]
            by_cases h6 : x + b % 128 * B > 1000000
            · simp only [if_pos h6]
            · simp only [if_neg h6]
        · rw [if_neg h4, if_neg (show ¬ (i > 0 ∧ b = 0) from fun e => h4 (by omega))]
          by_cases h6 : x + b % 128 * B > 1000000
          · simp only [if_pos h6]
          · simp only [if_neg h6]
      · rw [if_neg h1, numAt, if_neg h1, Int.mul_comm 128 B]
        exact ih k (i + 1) _ _ (by omega) (by omega) (unit_next i B hB (by omega)) (by omega) (by omega)
    · rw [if_neg (by omega), spec_readGroups.j1, List.drop_eq_nil_of_le (by omega)]
      simp [numAt]

theorem specNumberAt_ok (l : List Int) (hl : l.length ≤ 2000000) (k : Nat) (hk : l.length + 40 ≤ k) : spec_NumberAt.f k l = some (numB l) := by
  unfold spec_NumberAt.f numB
  rw [validBytes_ok l 16 hl k (by omega)]
  simp only [Option.bind_some, Bool.and_eq_true, decide_eq_true_eq]
  by_cases h : okB l = true ∧ l.length ≤ 16
  · rw [if_pos ⟨h.1, by omega⟩, if_pos h]
    unfold spec_readGroups.f
    have := specNum_l0 l ((okB_iff l).1 h.1) (by omega) 4 k 0 0 1 (by omega) (by omega) (.inl ⟨rfl, rfl⟩) (by omega) (by omega)
    rw [show ((0 : Nat) : Int) = 0 from rfl, List.drop_zero] at this
    rw [this]
    rfl
  · rw [if_neg (fun e => h ⟨e.1, by omega⟩), if_neg h]

theorem within_val (x a b : Int) : impl_within.f x a b = some (decide (a ≤ x ∧ x ≤ b)) := by
  unfold impl_within.f
  by_cases h : a ≤ x
  · rw [if_pos h]; simp [h]
  · rw [if_neg h]; simp [h]

/-- What both return. -/
def grB (x : Int) : List Int := if 0 ≤ x ∧ x ≤ 1000000 then gr 9 x else []

theorem grB_length (x : Int) : (grB x).length ≤ 10 := by
  unfold grB
  split
  · exact gr_length 9 x
  · simp

theorem implGroupsOf_ok (x : Int) (k : Nat) (hk : 10 ≤ k) : impl_GroupsOf.f k x = some (grB x) := by
  unfold impl_GroupsOf.f grB
  rw [within_val]
  simp only [Option.bind_some, decide_eq_true_eq]
  by_cases h : 0 ≤ x ∧ x ≤ 1000000
  · rw [if_pos h, if_pos h, implGr_ok x h.1 (by omega) k hk]
    rfl
  · rw [if_neg h, if_neg h]

theorem specGr_l0 : ∀ (f k : Nat) (x : Int) (o : List Int), f < k → 0 ≤ x → x < 128 ^ (f + 1) → x < 9223372036854775808 → o.length + f ≤ 1000 → spec_group.l0 k x o = some (o ++ gr f x) := by
  intro f
  induction f with
  | zero =>
    intro k x o hk h0 h1 h2 ho
    obtain ⟨k, rfl⟩ : ∃ m, k = m + 1 := ⟨k - 1, by omega⟩
    rw [spec_group.l0, if_neg (by omega), if_pos (by omega)]
    rfl
  | succ f ih =>
    intro k x o hk h0 h1 h2 ho
    obtain ⟨k, rfl⟩ : ∃ m, k = m + 1 := ⟨k - 1, by omega⟩
    rw [spec_group.l0]
    by_cases h : x > 127
    · rw [if_pos (by omega), if_pos (by omega), Int.tdiv_eq_ediv_of_nonneg h0, Int.tmod_eq_emod_of_nonneg h0, IntWalk.wrap64_in (x / 128) (by omega), IntWalk.wrap64_in _ (by omega)]
      have hp : (128 : Int) ^ (f + 1 + 1) = 128 * 128 ^ (f + 1) := by rw [Int.pow_succ, Int.mul_comm]
      rw [ih k (x / 128) _ (by omega) (by omega) (by rw [hp] at h1; omega) (by omega) (by rw [List.length_append, List.length_singleton]; omega)]
      rw [gr, if_pos h, List.append_assoc]
      simp [Int.add_comm]
    · rw [if_neg (by omega), if_pos (by omega), gr, if_neg h]

theorem specGr_ok (x : Int) (h0 : 0 ≤ x) (h1 : x < 9223372036854775808) (k : Nat) (hk : 10 ≤ k) : spec_group.f k x = some (gr 9 x) := by
  unfold spec_group.f
  have := specGr_l0 9 k x [] (by omega) h0 (by omega) h1 (by simp)
  rw [List.nil_append] at this
  exact this


/-- The first bytes of a number of more. -/
def enc : Nat → Int → List Int
  | 0, _ => []
  | i + 1, x => (x % 128 + 128) :: enc i (x / 128)

theorem enc_next (i : Nat) (B x c : Int) (hB : isUnit i B) (hi : i < 4) (hx0 : 0 ≤ x) (hx1 : x < B) (hc0 : 0 ≤ c) (hc1 : c < 128) : enc (i + 1) (x + c * B) = enc i x ++ [c + 128] := by
  rcases hB with ⟨e1, e2⟩ | ⟨e1, e2⟩ | ⟨e1, e2⟩ | ⟨e1, e2⟩ | ⟨e1, e2⟩
  · subst e1; subst e2
    simp only [enc, List.nil_append, List.cons.injEq, and_true]
    omega
  · subst e1; subst e2
    simp only [enc, List.cons_append, List.nil_append, List.cons.injEq, and_true]
    omega
  · subst e1; subst e2
    simp only [enc, List.cons_append, List.nil_append, List.cons.injEq, and_true]
    omega
  · subst e1; subst e2
    simp only [enc, List.cons_append, List.nil_append, List.cons.injEq, and_true]
    omega
  · omega

theorem gr_enc (i : Nat) (B x c : Int) (hB : isUnit i B) (hi : i < 4) (hx0 : 0 ≤ x) (hx1 : x < B) (hc0 : 0 ≤ c) (hc1 : c < 128) (hz : ¬ (i > 0 ∧ c = 0)) : gr 9 (x + c * B) = enc i x ++ [c] := by
  rcases hB with ⟨e1, e2⟩ | ⟨e1, e2⟩ | ⟨e1, e2⟩ | ⟨e1, e2⟩ | ⟨e1, e2⟩
  · subst e1; subst e2
    rw [gr1 8 _ (by omega)]
    simp only [enc, List.nil_append, List.cons.injEq, and_true]
    omega
  · subst e1; subst e2
    rw [gr2 7 _ (by omega) (by omega)]
    simp only [enc, List.cons_append, List.nil_append, List.cons.injEq, and_true]
    omega
  · subst e1; subst e2
    rw [gr3 6 _ (by omega) (by omega)]
    simp only [enc, List.cons_append, List.nil_append, List.cons.injEq, and_true]
    omega
  · subst e1; subst e2
    rw [gr4 5 _ (by omega) (by omega)]
    simp only [enc, List.cons_append, List.nil_append, List.cons.injEq, and_true]
    omega
  · omega

theorem numAt_back (l : List Int) (hb : ∀ x ∈ l, 0 ≤ x ∧ x ≤ 255) : ∀ (f i : Nat) (x B : Int), i + f = 4 → i ≤ l.length → isUnit i B → 0 ≤ x → x < B → l.take i = enc i x →
    numAt f (l.drop i) x B i = (0, 0) ∨ (∃ (y : Int) (n : Nat), numAt f (l.drop i) x B i = (y, (n : Int)) ∧ 1 ≤ n ∧ n ≤ l.length ∧ 0 ≤ y ∧ y ≤ 1000000 ∧ gr 9 y = l.take n) := by
  intro f
  induction f with
  | zero =>
    intro i x B _ _ _ _ _ _
    exact .inl rfl
  | succ f ih =>
    intro i x B hi hil hB hx0 hx1 ht
    by_cases h : i < l.length
    · have hx := hb (l[i]'h) (List.getElem_mem h)
      have htn : l.take (i + 1) = l.take i ++ [l[i]'h] := List.take_succ_eq_append_getElem h
      rw [List.drop_eq_getElem_cons h]
      generalize l[i]'h = b at hx htn ⊢
      have hu := unit_step i B x (b % 128) hB (by omega) hx0 hx1 (by omega) (by omega)
      rw [numAt]
      by_cases h1 : b < 128
      · rw [if_pos h1]
        by_cases h2 : i > 0 ∧ b = 0
        · rw [if_pos h2]; exact .inl rfl
        · rw [if_neg h2]
          by_cases h3 : x + b % 128 * B > 1000000
          · rw [if_pos h3]; exact .inl rfl
          · rw [if_neg h3]
            refine .inr ⟨_, i + 1, rfl, by omega, by omega, by omega, by omega, ?_⟩
            rw [gr_enc i B x (b % 128) hB (by omega) hx0 hx1 (by omega) (by omega) (by omega), htn, ht, show b % 128 = b by omega]
      · rw [if_neg h1]
        refine ih (i + 1) _ _ (by omega) (by omega) (unit_next i B hB (by omega)) (by omega) (by omega) ?_
        rw [enc_next i B x (b % 128) hB (by omega) hx0 hx1 (by omega) (by omega), htn, ht, show b % 128 + 128 = b by omega]
    · rw [List.drop_eq_nil_of_le (by omega)]
      exact .inl rfl

theorem draw_ok (l0 : List Int) (hw : ∀ x ∈ l0, (Lit.int .u8 x).wf = true) : ∃ l, spec_DrawNumberAt.f 100 l0 = some l ∧ l.length ≤ 60 := by
  obtain ⟨b, hr, hb, hn⟩ := reader_ok l0 hw
  obtain ⟨a, ha, ha0, ha1⟩ := pick_ok b hb hn 99 0 256 (by omega) (by omega)
  obtain ⟨c, hc, hc0, hc1⟩ := pick_ok b hb hn 99 (0 + 1) 256 (by omega) (by omega)
  obtain ⟨d, hd, hd0, hd1⟩ := pick_ok b hb hn 99 (0 + 1 + 1) 100 (by omega) (by omega)
  have ha2 := ha1 (by omega)
  have hc2 := hc1 (by omega)
  have hd2 := hd1 (by omega)
  obtain ⟨v, hv, hmem⟩ := one_ok b hb hn 99 (0 + 1 + 1 + 1) [a, wrap64 (128 * c), wrap64 (16384 + d), 1000000, 2000000] (by omega) (by omega) (by simp)
  have hvr : 0 ≤ v ∧ v ≤ 2000000 := by
    rw [IntWalk.wrap64_in (128 * c) (by omega), IntWalk.wrap64_in (16384 + d) (by omega)] at hmem
    simp only [List.mem_cons, List.not_mem_nil, or_false] at hmem
    omega
  obtain ⟨o, p, h1, h2, _, h4, h5⟩ := someBytes_ok b hb hn 6 100 (by omega) (0 + 1 + 1 + 1 + 1) (by omega) (by omega)
  obtain ⟨e, he, _, _⟩ := pick_ok b hb hn 99 p 6 (by omega) (by omega)
  obtain ⟨o2, p2, g1, g2, _, _, _⟩ := someBytes_ok b hb hn 6 100 (by omega) (p + 1) (by omega) (by omega)
  obtain ⟨u, hu, _, _⟩ := pick_ok b hb hn 99 (p + 1) 2 (by omega) (by omega)
  have hgl := gr_length 9 v
  unfold spec_DrawNumberAt.f
  rw [hr, Option.bind_some, Option.bind_some]
  simp only []
  rw [ha, Option.bind_some]
  simp only []
  rw [hc, Option.bind_some]
  simp only []
  rw [hd, Option.bind_some]
  simp only []
  rw [hv, Option.bind_some]
  simp only []
  rw [specGr_ok v hvr.1 (by omega) 100 (by omega), Option.bind_some, if_pos (by rw [List.length_nil]; omega), Option.bind_some, h1, Option.bind_some, List.nil_append]
  simp only []
  rw [if_pos (by omega), he, Option.bind_some]
  simp only []
  by_cases e0 : e = 0
  · rw [if_pos e0, g1]
    exact ⟨o2, rfl, by omega⟩
  · rw [if_neg e0]
    by_cases e1 : e = 1
    · rw [if_pos e1, hu]
      exact ⟨_, rfl, by simp⟩
    · rw [if_neg e1]
      exact ⟨_, rfl, by rw [List.length_append]; omega⟩

theorem FnNumberAt : laws_FnNumberAt.Pure := by
  intro l0 _ _ hw
  by_cases hc : (l0.length : Int) > 1048576
  · exact ⟨0, by unfold laws_FnNumberAt.f; rw [if_pos hc]⟩
  · refine ⟨100, ?_⟩
    obtain ⟨l, hd, hlen⟩ := draw_ok l0 hw
    unfold laws_FnNumberAt.f
    rw [if_neg hc, hd]
    simp (disch := omega) only [Option.bind_some, implNumberAt_ok, specNumberAt_ok, if_true]
    rw [show (100 : Nat) = 99 + 1 from rfl]
    by_cases h : okB l = true ∧ l.length ≤ 16
    · have hb := (okB_iff l).1 h.1
      have hv : numB l = numAt 4 l 0 1 0 := by unfold numB; rw [if_pos h]
      have hback := numAt_back l hb 4 0 0 1 (by omega) (by omega) (.inl ⟨rfl, rfl⟩) (by omega) (by omega) (by simp [enc])
      rw [List.drop_zero, ← hv] at hback
      rcases hback with hz | ⟨y, n, hyn, hn1, hnl, hy0, hy1, hg⟩
      · rw [hz, laws_FnNumberAt.j0]
        simp
      · rw [hyn]
        have hne : (((n : Int)) == 0) = false := beq_eq_false_iff_ne.mpr (by omega)
        simp only [hne]
        rw [laws_FnNumberAt.j0]
        simp only [Bool.false_eq_true, if_false]
        have hgB : grB y = l.take n := by unfold grB; rw [if_pos ⟨hy0, hy1⟩, hg]
        rw [if_pos (by omega), implGroupsOf_ok y 99 (by omega), Option.bind_some, if_pos (by omega), Int.toNat_natCast, hgB, equalInts_self _ (by rw [List.length_take]; omega) 99 (by rw [List.length_take]; omega)]
        rfl
    · have hv : numB l = (0, 0) := by unfold numB; rw [if_neg h]
      rw [hv, laws_FnNumberAt.j0]
      simp

end Go.Proofs.Ytnolmimfpnngjaa.Pure
