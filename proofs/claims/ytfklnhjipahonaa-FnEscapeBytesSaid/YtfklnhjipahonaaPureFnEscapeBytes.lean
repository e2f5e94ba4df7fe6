/- Bytes end once: FnEscapeBytes returns true for every list of bytes. Conditions: none. -/
import Derived.Test.YtfklnhjipahonaaHFnEscapeBytesx3
namespace Go.Proofs.Ytfklnhjipahonaa.Pure
open Go.RowKit Go.Proofs.Ytfklnhjipahonaa.HFnEscapeBytes Go.Proofs.YtfklnhjipahonaaW.PrintWords Go.Proofs.YtfklnhjipahonaaW.PrintLast
open Go
set_option linter.unusedVariables false
set_option linter.unusedSimpArgs false

theorem xor64_range (a b : Int) (ha : 0 ≤ a) (ha' : a < 1073741824) (hb : 0 ≤ b) (hb' : b < 1073741824) :
    0 ≤ Go.bits .xor .i64 a b ∧ Go.bits .xor .i64 a b < 1073741824 := by
  obtain ⟨m, rfl⟩ := Int.eq_ofNat_of_zero_le ha
  obtain ⟨n, rfl⟩ := Int.eq_ofNat_of_zero_le hb
  have hm : m < 2 ^ 30 := by omega
  have hn : n < 2 ^ 30 := by omega
  have hx : m ^^^ n < 2 ^ 30 := Nat.xor_lt_two_pow hm hn
  have hm' : m % 2 ^ IntKind.i64.bits = m := Nat.mod_eq_of_lt (Nat.lt_of_lt_of_le hm (by decide))
  have hn' : n % 2 ^ IntKind.i64.bits = n := Nat.mod_eq_of_lt (Nat.lt_of_lt_of_le hn (by decide))
  simp only [Go.bits, BitVec.ofInt_natCast, BitVec.toNat_xor, BitVec.toNat_ofNat, hm', hn']
  rw [IntWalk.i64_in ((m ^^^ n : Nat) : Int) (by omega)]
  omega

theorem rd_range (l : List Int) (hl : ∀ x ∈ l, 0 ≤ x ∧ x ≤ 255) (i : Int) : 0 ≤ rd l i ∧ rd l i ≤ 255 := by
  unfold rd
  rw [List.getD_eq_getElem?_getD]
  cases h : l[i.toNat]? with
  | none => simp
  | some v => exact hl v (List.mem_of_getElem? h)

theorem tmod_range (a n : Int) (ha : 0 ≤ a) (hn : 1 ≤ n) : 0 ≤ Int.tmod a n ∧ Int.tmod a n < n :=
  ⟨Int.tmod_nonneg n ha, Int.tmod_lt_of_pos a (by omega)⟩

theorem pick_ok (l : List Int) (hl : ∀ x ∈ l, 0 ≤ x ∧ x ≤ 255) (hn : l.length ≤ 2000) (k : Nat) (p n : Int) (hp : 0 ≤ p) (hp' : p ≤ 1000000) :
    ∃ v, spec_reader_pick.f (k + 1) l p n = some (v, p + 1) ∧ 0 ≤ v ∧ (1 ≤ n → v < n) := by
  have hw : wrap64 (p + 1) = p + 1 := IntWalk.wrap64_in _ (by omega)
  unfold spec_reader_pick.f
  rw [hw]
  by_cases h1 : n < 1
  · rw [if_pos h1]
    exact ⟨0, by simp [spec_reader_pick.j0], by omega, fun h => by omega⟩
  · rw [if_neg h1]
    by_cases h2 : l.length = 0
    · exact ⟨0, by simp [spec_reader_pick.j0, h2], by omega, fun h => by omega⟩
    · have hb : ((l.length : Int) == 0) = false := beq_eq_false_iff_ne.mpr (by omega)
      have hw1 : wrap64 (p + 1 - 1) = p := (IntWalk.wrap64_in (p + 1 - 1) (by omega)).trans (by omega)
      have hn0 : n ≠ 0 := by omega
      have hl0 : (l.length : Int) ≠ 0 := by omega
      simp only [spec_reader_pick.j0, hb, hw1, Bool.false_eq_true, if_false, hn0, hl0]
      by_cases h3 : p < (l.length : Int)
      · rw [if_pos h3, if_pos hp]
        have hr := rd_range l hl p
        rw [IntWalk.wrap64_in (rd l p) (by omega)]
        have ht := tmod_range (rd l p) n hr.1 (by omega)
        exact ⟨_, rfl, ht.1, fun _ => ht.2⟩
      · rw [if_neg h3]
        have hm1 := tmod_range p (l.length : Int) hp (by omega)
        rw [if_pos hm1.1, if_pos hm1.2]
        have hw7 : wrap64 (p * 7) = p * 7 := IntWalk.wrap64_in _ (by omega)
        have hw73 : wrap64 (p * 7 + 3) = p * 7 + 3 := IntWalk.wrap64_in _ (by omega)
        rw [hw7, hw73]
        have hm2 := tmod_range (p * 7 + 3) (l.length : Int) (by omega) (by omega)
        rw [if_pos hm2.1, if_pos hm2.2]
        have hr1 := rd_range l hl (Int.tmod p (l.length : Int))
        have hr2 := rd_range l hl (Int.tmod (p * 7 + 3) (l.length : Int))
        generalize rd l (Int.tmod p (l.length : Int)) = r1 at hr1 ⊢
        generalize rd l (Int.tmod (p * 7 + 3) (l.length : Int)) = r2 at hr2 ⊢
        have hq : 0 ≤ Int.tdiv p (l.length : Int) ∧ Int.tdiv p (l.length : Int) ≤ p := by
          rw [Int.tdiv_eq_ediv_of_nonneg hp]
          exact ⟨Int.ediv_nonneg hp (by omega), Int.ediv_le_self _ hp⟩
        generalize Int.tdiv p (l.length : Int) = q at hq ⊢
        simp (disch := omega) only [IntWalk.wrap64_in]
        have hX : 0 ≤ r1 * 131 + r2 * 1117 + p * 29 + q * 53 ∧ r1 * 131 + r2 * 1117 + p * 29 + q * 53 < 1073741824 := by omega
        generalize r1 * 131 + r2 * 1117 + p * 29 + q * 53 = X at hX ⊢
        have hd : 0 ≤ Int.tdiv X 64 ∧ Int.tdiv X 64 < 1073741824 := by
          rw [Int.tdiv_eq_ediv_of_nonneg hX.1]; omega
        rw [IntWalk.wrap64_in (Int.tdiv X 64) (by omega)]
        have hx := xor64_range X (Int.tdiv X 64) hX.1 hX.2 hd.1 hd.2
        have ht := tmod_range (Go.bits .xor .i64 X (Int.tdiv X 64)) n hx.1 (by omega)
        exact ⟨_, rfl, ht.1, fun _ => ht.2⟩

theorem reader_ok (l0 : List Int) (hw : ∀ x ∈ l0, (Lit.int .u8 x).wf = true) :
    ∃ l, spec_newReader.f l0 = some (l, 0) ∧ (∀ x ∈ l, 0 ≤ x ∧ x ≤ 255) ∧ l.length ≤ 2000 := by
  have hb : ∀ x ∈ l0, 0 ≤ x ∧ x ≤ 255 := by
    intro x hx
    have h := hw x hx
    simp [Lit.wf, IntKind.min, IntKind.max, IntKind.signed, IntKind.bits] at h
    omega
  unfold spec_newReader.f
  by_cases h : (l0.length : Int) > 2000
  · rw [if_pos h, if_pos (by omega)]
    exact ⟨_, rfl, fun x hx => hb x (List.mem_of_mem_take hx), by rw [List.length_take]; omega⟩
  · rw [if_neg h]
    exact ⟨_, rfl, hb, by omega⟩

theorem one_ok (l : List Int) (hl : ∀ x ∈ l, 0 ≤ x ∧ x ≤ 255) (hn : l.length ≤ 2000) (k : Nat) (p : Int) (xs : List Int) (hp : 0 ≤ p) (hp' : p ≤ 1000000) (hx : 1 ≤ xs.length) :
    ∃ v, spec_reader_one.f (k + 1) l p xs = some (v, p + 1) ∧ v ∈ xs := by
  obtain ⟨v, hv, h0, h1⟩ := pick_ok l hl hn k p (xs.length : Int) hp hp'
  have h2 := h1 (by omega)
  unfold spec_reader_one.f
  rw [hv]
  simp only [Option.bind_some]
  rw [if_pos h0, if_pos h2]
  refine ⟨_, rfl, ?_⟩
  unfold rd
  have h3 : v.toNat < xs.length := by omega
  rw [List.getD_eq_getElem?_getD, List.getElem?_eq_getElem h3]
  exact List.getElem_mem h3

theorem someBytes_end (l : List Int) (hb : ∀ x ∈ l, 0 ≤ x ∧ x ≤ 255) (hn : l.length ≤ 2000) (most : Int) (k : Nat) (o : List Int) (n p : Int) (hp : 0 ≤ p) (hp' : p ≤ 900000) (ho : o.length ≤ 1000) (hx : ∀ x ∈ o, -1 ≤ x ∧ x ≤ 256) :
    ∃ o' p', spec_someBytes.j1 (k + 2) most o n false l p = some (o', p') ∧ o'.length ≤ o.length + 17 ∧ (∀ x ∈ o', -1 ≤ x ∧ x ≤ 256) ∧ p ≤ p' ∧ p' ≤ p + 1 := by
  obtain ⟨v, hv, h0, h1⟩ := pick_ok l hb hn k p 30 hp (by omega)
  simp only [spec_someBytes.j1, Bool.false_eq_true, if_false, hv, Option.bind_some]
  have happ : ∀ y : List Int, (∀ x ∈ y, -1 ≤ x ∧ x ≤ 256) → ∀ x ∈ o ++ y, -1 ≤ x ∧ x ≤ 256 := fun y hy x hxx => by
    rcases List.mem_append.1 hxx with h | h
    · exact hx x h
    · exact hy x h
  by_cases e0 : v = 0
  · rw [if_pos e0, if_pos (by omega)]
    exact ⟨_, _, rfl, by simp, happ _ (by simp), by omega, by omega⟩
  · rw [if_neg e0]
    by_cases e1 : v = 1
    · rw [if_pos e1, if_pos (by omega)]
      exact ⟨_, _, rfl, by simp, happ _ (by simp), by omega, by omega⟩
    · rw [if_neg e1]
      by_cases e2 : v = 2
      · rw [if_pos e2, if_pos (by simp; omega)]
        exact ⟨_, _, rfl, by simp, happ _ (by simp), by omega, by omega⟩
      · rw [if_neg e2]
        exact ⟨_, _, rfl, by omega, hx, by omega, by omega⟩

theorem someBytes_l0 (l : List Int) (hb : ∀ x ∈ l, 0 ≤ x ∧ x ≤ 255) (hn : l.length ≤ 2000) (most : Int) : ∀ (n k : Nat) (o : List Int) (p : Int), 2 * n + 4 ≤ k → n ≤ 16 → 0 ≤ p → p ≤ 800000 - 3 * n → o.length + n ≤ 900 → (∀ x ∈ o, -1 ≤ x ∧ x ≤ 256) →
    ∃ o' p', spec_someBytes.l0 k most o (n : Int) l p = some (o', p') ∧ o'.length ≤ o.length + n + 17 ∧ (∀ x ∈ o', -1 ≤ x ∧ x ≤ 256) ∧ p ≤ p' ∧ p' ≤ p + 3 * n + 1 := by
  intro n
  induction n with
  | zero =>
    intro k o p hk _ hp hp' ho hx
    obtain ⟨k, rfl⟩ : ∃ m, k = m + 1 + 2 := ⟨k - 3, by omega⟩
    simp only [spec_someBytes.l0]
    rw [if_neg (by omega)]
    obtain ⟨o', p', h1, h2, h3, h4, h5⟩ := someBytes_end l hb hn most k o ((0 : Nat) : Int) p hp (by omega) (by omega) hx
    exact ⟨o', p', h1, by omega, h3, h4, by omega⟩
  | succ n ih =>
    intro k o p hk hn16 hp hp' ho hx
    obtain ⟨k, rfl⟩ : ∃ m, k = m + 1 + 2 := ⟨k - 3, by omega⟩
    simp only [spec_someBytes.l0]
    rw [if_pos (by omega)]
    by_cases hm : (o.length : Int) < most
    · rw [decide_eq_true hm]
      obtain ⟨a, ha, ha0, ha1⟩ := pick_ok l hb hn k p 256 hp (by omega)
      obtain ⟨b, hb1, hb0, hb2⟩ := pick_ok l hb hn k (p + 1) 4 (by omega) (by omega)
      obtain ⟨c, hc, hmem⟩ := one_ok l hb hn k (p + 1 + 1) [a, 0, 192, 219, b, 255] (by omega) (by omega) (by simp)
      have hcr : -1 ≤ c ∧ c ≤ 256 := by
        have h1 := ha1 (by omega)
        have h2 := hb2 (by omega)
        simp only [List.mem_cons, List.not_mem_nil, or_false] at hmem
        omega
      simp only [spec_someBytes.j1, if_true, ha, hb1, hc, Option.bind_some]
      rw [if_pos (by omega), (IntWalk.wrap64_in (((n + 1 : Nat) : Int) - 1) (by omega)).trans (show ((n + 1 : Nat) : Int) - 1 = (n : Int) by omega)]
      obtain ⟨o', p', h1, h2, h3, h4, h5⟩ := ih (k + 1) (o ++ [c]) (p + 1 + 1 + 1) (by omega) (by omega) (by omega) (by omega) (by rw [List.length_append, List.length_singleton]; omega) (fun x hxx => by
        rcases List.mem_append.1 hxx with h | h
        · exact hx x h
        · rw [List.mem_singleton.1 h]; exact hcr)
      rw [List.length_append, List.length_singleton] at h2
      exact ⟨o', p', h1, by omega, h3, by omega, by omega⟩
    · rw [decide_eq_false hm]
      obtain ⟨o', p', h1, h2, h3, h4, h5⟩ := someBytes_end l hb hn most k o ((n + 1 : Nat) : Int) p hp (by omega) (by omega) hx
      exact ⟨o', p', h1, by omega, h3, h4, by omega⟩

theorem someBytes_ok (l : List Int) (hb : ∀ x ∈ l, 0 ≤ x ∧ x ≤ 255) (hn : l.length ≤ 2000) (most : Int) (k : Nat) (hk : 40 ≤ k) (p : Int) (hp : 0 ≤ p) (hp' : p ≤ 700000) :
    ∃ o' p', spec_someBytes.f k l p most = some (o', p') ∧ o'.length ≤ 33 ∧ (∀ x ∈ o', -1 ≤ x ∧ x ≤ 256) ∧ p ≤ p' ∧ p' ≤ p + 50 := by
  obtain ⟨k, rfl⟩ : ∃ m, k = m + 1 := ⟨k - 1, by omega⟩
  obtain ⟨v, hv, hmem⟩ := one_ok l hb hn k p [4, 6, 3, 8, 2, 1, 0, 16] hp (by omega) (by simp)
  have hvr : 0 ≤ v ∧ v ≤ 16 := by
    simp only [List.mem_cons, List.not_mem_nil, or_false] at hmem
    omega
  obtain ⟨m, rfl⟩ := Int.eq_ofNat_of_zero_le hvr.1
  unfold spec_someBytes.f
  simp only [hv, Option.bind_some]
  obtain ⟨o', p', h1, h2, h3, h4, h5⟩ := someBytes_l0 l hb hn most m (k + 1) [] (p + 1) (by omega) (by omega) (by omega) (by omega) (by simp; omega) (by simp)
  simp only [List.length_nil] at h2
  exact ⟨o', p', h1, by omega, h3, by omega, by omega⟩

theorem rd_nat (l : List Int) (i : Nat) (h : i < l.length) : rd l (i : Int) = l[i] := by
  unfold rd
  rw [Int.toNat_natCast, List.getD_eq_getElem?_getD, List.getElem?_eq_getElem h]
  rfl

theorem step_nat (i : Nat) (h : i < 4611686018427387904) : wrap64 ((i : Int) + 1) = ((i + 1 : Nat) : Int) := by
  rw [IntWalk.wrap64_in ((i : Int) + 1) (by omega)]
  rfl

theorem equalInts_l0 (a b : List Int) (hab : a.length = b.length) (hl : a.length ≤ 2000000) : ∀ (d k i : Nat), i + d = a.length → d < k → laws_equalInts.l0 k a b (i : Int) = some (decide (a.drop i = b.drop i)) := by
  intro d
  induction d with
  | zero =>
    intro k i hi hk
    obtain ⟨k, rfl⟩ : ∃ m, k = m + 1 := ⟨k - 1, by omega⟩
    simp only [laws_equalInts.l0]
    rw [if_neg (by omega), List.drop_eq_nil_of_le (by omega), List.drop_eq_nil_of_le (by omega)]
    rfl
  | succ d ih =>
    intro k i hi hk
    obtain ⟨k, rfl⟩ : ∃ m, k = m + 1 := ⟨k - 1, by omega⟩
    simp only [laws_equalInts.l0]
    rw [if_pos (by omega), if_pos (by omega), if_pos (by omega), step_nat i (by omega), rd_nat a i (by omega), rd_nat b i (by omega)]
    rw [List.drop_eq_getElem_cons (by omega : i < a.length), List.drop_eq_getElem_cons (by omega : i < b.length)]
    by_cases e : a[i]'(by omega) = b[i]'(by omega)
    · rw [if_pos e, ih k (i + 1) (by omega) (by omega), e]
      exact congrArg some (decide_eq_decide.mpr ⟨fun h => by rw [h], fun h => (List.cons.inj h).2⟩)
    · rw [if_neg e]
      exact congrArg some (decide_eq_false (fun h => e (List.cons.inj h).1)).symm

theorem equalInts_ok (a b : List Int) (hl : a.length ≤ 2000000) (k : Nat) (hk : a.length < k) : laws_equalInts.f k a b = some (decide (a = b)) := by
  unfold laws_equalInts.f
  by_cases h : a.length = b.length
  · rw [if_pos (by omega)]
    exact equalInts_l0 a b h hl a.length k 0 (by omega) hk
  · rw [if_neg (by omega), decide_eq_false (fun e => h (by rw [e]))]

theorem equalInts_self (a : List Int) (hl : a.length ≤ 2000000) (k : Nat) (hk : a.length < k) : laws_equalInts.f k a a = some true := by
  rw [equalInts_ok a a hl k hk, decide_eq_true rfl]

/-- Numbers of one byte. -/
def okB (l : List Int) : Bool := l.all fun x => decide (0 ≤ x ∧ x ≤ 255)

theorem okB_iff (l : List Int) : okB l = true ↔ ∀ x ∈ l, 0 ≤ x ∧ x ≤ 255 := by simp [okB]

theorem inRange_val (x a b : Int) : spec_inRange.f x a b = some (decide (a ≤ x ∧ x ≤ b)) := by
  unfold spec_inRange.f
  by_cases h : a ≤ x
  · rw [if_pos h]; simp [h]
  · rw [if_neg h]; simp [h]

theorem validBytes_l0 (l : List Int) (m : Int) (hl : l.length ≤ 2000000) : ∀ (d k i : Nat), i + d = l.length → d < k → spec_validBytes.l0 k l m (i : Int) = some (okB (l.drop i) && decide ((l.length : Int) ≤ m)) := by
  intro d
  induction d with
  | zero =>
    intro k i hi hk
    obtain ⟨k, rfl⟩ : ∃ m, k = m + 1 := ⟨k - 1, by omega⟩
    simp only [spec_validBytes.l0]
    rw [if_neg (by omega), List.drop_eq_nil_of_le (by omega)]
    simp [okB]
  | succ d ih =>
    intro k i hi hk
    obtain ⟨k, rfl⟩ : ∃ m, k = m + 1 := ⟨k - 1, by omega⟩
    simp only [spec_validBytes.l0]
    rw [if_pos (by omega), if_pos (by omega), step_nat i (by omega), rd_nat l i (by omega), inRange_val]
    rw [List.drop_eq_getElem_cons (by omega : i < l.length)]
    simp only [Option.bind_some]
    by_cases e : 0 ≤ l[i]'(by omega) ∧ l[i]'(by omega) ≤ 255
    · rw [if_pos (decide_eq_true e), ih k (i + 1) (by omega) (by omega)]
      have h : okB (l[i]'(by omega) :: l.drop (i + 1)) = okB (l.drop (i + 1)) := by
        unfold okB
        rw [List.all_cons, decide_eq_true e, Bool.true_and]
      rw [h]
    · rw [if_neg (by simpa using e)]
      have h : okB (l[i]'(by omega) :: l.drop (i + 1)) = false := by
        unfold okB
        rw [List.all_cons, decide_eq_false e, Bool.false_and]
      rw [h, Bool.false_and]

theorem validBytes_ok (l : List Int) (m : Int) (hl : l.length ≤ 2000000) (k : Nat) (hk : l.length < k) : spec_validBytes.f k l m = some (okB l && decide ((l.length : Int) ≤ m)) := by
  unfold spec_validBytes.f
  exact validBytes_l0 l m hl l.length k 0 (by omega) hk

theorem bytesAlone_val (l : List Int) : impl_bytesAlone.f l = some (okB l) := by
  unfold impl_bytesAlone.f okB
  congr 1
  induction l with
  | nil => rfl
  | cons x l ih =>
    rw [List.any_cons, List.all_cons, ← ih]
    have h : (decide (x < 0) || decide (x > 255)) = !(decide (0 ≤ x ∧ x ≤ 255)) := by
      by_cases h1 : x < 0
      · simp [h1]
      · by_cases h2 : x > 255
        · simp [h2]
        · simp [h1, h2]; omega
    rw [h, Bool.not_or, Bool.not_not]

theorem bytesOk_val (l : List Int) : impl_bytesOk.f l = some (okB l && decide (l.length ≤ 16)) := by
  unfold impl_bytesOk.f
  rw [bytesAlone_val]
  simp only [Option.bind_some]
  by_cases h : l.length ≤ 16
  · rw [if_pos (by omega)]; simp [h]
  · rw [if_neg (by omega)]; simp [h]

/-- What stands for a byte. -/
def esc1 (x : Int) : List Int := if x = 192 then [219, 220] else if x = 219 then [219, 221] else [x]
def escL (l : List Int) : List Int := l.flatMap esc1

theorem esc1_length (x : Int) : 1 ≤ (esc1 x).length ∧ (esc1 x).length ≤ 2 := by
  unfold esc1
  split
  · simp
  · split <;> simp

theorem escL_length (l : List Int) : (escL l).length ≤ 2 * l.length := by
  induction l with
  | nil => simp [escL]
  | cons x l ih =>
    have h := (esc1_length x).2
    have e : escL (x :: l) = esc1 x ++ escL l := by simp [escL]
    rw [e, List.length_append, List.length_cons]
    omega

theorem escL_cons (x : Int) (l : List Int) : escL (x :: l) = esc1 x ++ escL l := by simp [escL]

theorem implEsc_l0 (l : List Int) (hl : l.length ≤ 16) : ∀ (d k i : Nat) (o : List Int), i + d = l.length → d < k → o.length ≤ 2 * i →
    impl_EscapeBytes.l0 k o l (l.length : Int) (i : Int) = some (o ++ escL (l.drop i) ++ [192]) := by
  intro d
  induction d with
  | zero =>
    intro k i o hi hk ho
    obtain ⟨k, rfl⟩ : ∃ m, k = m + 1 := ⟨k - 1, by omega⟩
    simp only [impl_EscapeBytes.l0]
    rw [if_neg (by omega), List.drop_eq_nil_of_le (by omega), if_pos (by omega)]
    simp [escL]
  | succ d ih =>
    intro k i o hi hk ho
    obtain ⟨k, rfl⟩ : ∃ m, k = m + 1 := ⟨k - 1, by omega⟩
    simp only [impl_EscapeBytes.l0]
    rw [if_pos (by omega), if_pos (by omega), if_pos (by omega), step_nat i (by omega), rd_nat l i (by omega)]
    rw [List.drop_eq_getElem_cons (by omega : i < l.length), escL_cons]
    generalize l[i]'(by omega) = x
    simp only [Option.bind_some]
    have hlen : ∀ y : List Int, y.length ≤ 2 → (o ++ y).length ≤ 2 * (i + 1) := fun y hy => by rw [List.length_append]; omega
    by_cases h1 : x = 192
    · rw [if_pos h1, if_pos (by simp; omega), ih k (i + 1) _ (by omega) (by omega) (hlen _ (by simp))]
      simp [esc1, h1]
    · rw [if_neg h1]
      by_cases h2 : x = 219
      · rw [if_pos h2, if_pos (by simp; omega), ih k (i + 1) _ (by omega) (by omega) (hlen _ (by simp))]
        simp [esc1, h2]
      · rw [if_neg h2, if_pos (by omega), ih k (i + 1) _ (by omega) (by omega) (hlen _ (by simp))]
        simp [esc1, h1, h2]

/-- What both return. -/
def escB (l : List Int) : List Int := if okB l = true ∧ l.length ≤ 16 then escL l ++ [192] else []

theorem escB_length (l : List Int) : (escB l).length ≤ 33 := by
  unfold escB
  split
  · next h =>
    have := escL_length l
    rw [List.length_append, List.length_singleton]
    omega
  · simp

theorem implEsc_ok (l : List Int) (k : Nat) (hk : l.length < k) : impl_EscapeBytes.f k l = some (escB l) := by
  unfold impl_EscapeBytes.f escB
  rw [bytesOk_val]
  simp only [Option.bind_some, Bool.and_eq_true, decide_eq_true_eq]
  by_cases h : okB l = true ∧ l.length ≤ 16
  · rw [if_pos h, if_pos h]
    have := implEsc_l0 l h.2 l.length k 0 [] (by omega) hk (by simp)
    simpa using this
  · rw [if_neg h, if_neg h]

theorem specEsc_l0 (l : List Int) (hl : l.length ≤ 16) : ∀ (d k i : Nat) (o : List Int), i + d = l.length → d < k → o.length ≤ 2 * i →
    spec_EscapeBytes.l0 k l o (i : Int) = some (o ++ escL (l.drop i) ++ [192]) := by
  intro d
  induction d with
  | zero =>
    intro k i o hi hk ho
    obtain ⟨k, rfl⟩ : ∃ m, k = m + 1 := ⟨k - 1, by omega⟩
    simp only [spec_EscapeBytes.l0]
    rw [if_neg (by omega), List.drop_eq_nil_of_le (by omega), if_pos (by omega)]
    simp [escL]
  | succ d ih =>
    intro k i o hi hk ho
    obtain ⟨k, rfl⟩ : ∃ m, k = m + 1 := ⟨k - 1, by omega⟩
    simp only [spec_EscapeBytes.l0]
    rw [if_pos (by omega), if_pos (by omega), step_nat i (by omega), rd_nat l i (by omega)]
    rw [List.drop_eq_getElem_cons (by omega : i < l.length), escL_cons]
    generalize l[i]'(by omega) = x
    simp only [Option.bind_some]
    have hlen : ∀ y : List Int, y.length ≤ 2 → (o ++ y).length ≤ 2 * (i + 1) := fun y hy => by rw [List.length_append]; omega
    by_cases h1 : x = 192
    · rw [if_pos h1, if_pos (by simp; omega), ih k (i + 1) _ (by omega) (by omega) (hlen _ (by simp))]
      simp [esc1, h1]
    · rw [if_neg h1]
      by_cases h2 : x = 219
      · rw [if_pos h2, if_pos (by simp; omega), ih k (i + 1) _ (by omega) (by omega) (hlen _ (by simp))]
        simp [esc1, h2]
      · rw [if_neg h2, if_pos (by omega), ih k (i + 1) _ (by omega) (by omega) (hlen _ (by simp))]
        simp [esc1, h1, h2]

theorem specEsc_ok (l : List Int) (hl : l.length ≤ 2000000) (k : Nat) (hk : l.length < k) : spec_EscapeBytes.f k l = some (escB l) := by
  unfold spec_EscapeBytes.f escB
  rw [validBytes_ok l 16 hl k hk]
  simp only [Option.bind_some, Bool.and_eq_true, decide_eq_true_eq]
  by_cases h : okB l = true ∧ l.length ≤ 16
  · rw [if_pos ⟨h.1, by omega⟩, if_pos h]
    have := specEsc_l0 l h.2 l.length k 0 [] (by omega) hk (by simp)
    simpa using this
  · rw [if_neg (fun e => h ⟨e.1, by omega⟩), if_neg h]

theorem sliceEqual_l0 (a b : List Int) (hab : a.length = b.length) (hl : a.length ≤ 2000000) : ∀ (d k i : Nat), i + d = a.length → d < k → slices_Equal_int_int.l0 k a b (a.length : Int) (i : Int) = some (decide (a.drop i = b.drop i)) := by
  intro d
  induction d with
  | zero =>
    intro k i hi hk
    obtain ⟨k, rfl⟩ : ∃ m, k = m + 1 := ⟨k - 1, by omega⟩
    simp only [slices_Equal_int_int.l0]
    rw [if_neg (by omega), List.drop_eq_nil_of_le (by omega), List.drop_eq_nil_of_le (by omega)]
    rfl
  | succ d ih =>
    intro k i hi hk
    obtain ⟨k, rfl⟩ : ∃ m, k = m + 1 := ⟨k - 1, by omega⟩
    simp only [slices_Equal_int_int.l0]
    rw [if_pos (by omega), if_pos (by omega), if_pos (by omega), if_pos (by omega), step_nat i (by omega), rd_nat a i (by omega), rd_nat b i (by omega)]
    rw [List.drop_eq_getElem_cons (by omega : i < a.length), List.drop_eq_getElem_cons (by omega : i < b.length)]
    by_cases e : a[i]'(by omega) = b[i]'(by omega)
    · rw [if_pos e, ih k (i + 1) (by omega) (by omega), e]
      exact congrArg some (decide_eq_decide.mpr ⟨fun h => by rw [h], fun h => (List.cons.inj h).2⟩)
    · rw [if_neg e]
      exact congrArg some (decide_eq_false (fun h => e (List.cons.inj h).1)).symm

theorem sliceEqual_ok (a b : List Int) (hl : a.length ≤ 2000000) (k : Nat) (hk : a.length < k) : slices_Equal_int_int.f k a b = some (decide (a = b)) := by
  unfold slices_Equal_int_int.f
  by_cases h : a.length = b.length
  · rw [if_pos (by omega)]
    exact sliceEqual_l0 a b h hl a.length k 0 (by omega) hk
  · rw [if_neg (by omega), decide_eq_false (fun e => h (by rw [e]))]

theorem esc_cases (t : List Int) (x : Int) (r : List Int) (h : x :: r = escL t ++ [192]) :
    (t = [] ∧ x = 192 ∧ r = []) ∨ (∃ t', t = 192 :: t' ∧ x = 219 ∧ r = 220 :: (escL t' ++ [192])) ∨ (∃ t', t = 219 :: t' ∧ x = 219 ∧ r = 221 :: (escL t' ++ [192])) ∨ (∃ t', t = x :: t' ∧ x ≠ 192 ∧ x ≠ 219 ∧ r = escL t' ++ [192]) := by
  cases t with
  | nil =>
    have h' : x :: r = [192] := h
    exact .inl ⟨rfl, (List.cons.inj h').1, (List.cons.inj h').2⟩
  | cons y t =>
    rw [escL_cons] at h
    by_cases h1 : y = 192
    · subst h1
      have h' : x :: r = 219 :: 220 :: (escL t ++ [192]) := h
      exact .inr (.inl ⟨t, rfl, (List.cons.inj h').1, (List.cons.inj h').2⟩)
    · by_cases h2 : y = 219
      · subst h2
        have h' : x :: r = 219 :: 221 :: (escL t ++ [192]) := h
        exact .inr (.inr (.inl ⟨t, rfl, (List.cons.inj h').1, (List.cons.inj h').2⟩))
      · have h' : x :: r = y :: (escL t ++ [192]) := by
          rw [h]
          simp [esc1, h1, h2]
        obtain ⟨e1, e2⟩ := List.cons.inj h'
        subst e1
        exact .inr (.inr (.inr ⟨t, rfl, h1, h2, e2⟩))

/-- What the program hands back, once it has read its list as o. -/
def fin (l o : List Int) : List Int × Bool := if okB o = true ∧ o.length ≤ 16 ∧ escL o ++ [192] = l then (o, true) else ([], false)

theorem implUn_fin (l o : List Int) (k : Nat) (hk : 40 ≤ k) (i : Int) : impl_UnescapeBytes.j1 (k + 1) l o i false = some (fin l o) := by
  simp only [impl_UnescapeBytes.j1, Bool.false_eq_true, if_false, bytesOk_val, Option.bind_some, Bool.and_eq_true, decide_eq_true_eq]
  unfold fin
  by_cases h : okB o = true ∧ o.length ≤ 16
  · have he := escB_length o
    rw [if_pos h, implEsc_ok o k (by omega)]
    simp only [Option.bind_some]
    rw [sliceEqual_ok (escB o) l (by omega) k (by omega)]
    simp only [Option.bind_some, decide_eq_true_eq]
    have hB : escB o = escL o ++ [192] := by unfold escB; rw [if_pos h]
    rw [hB]
    by_cases e : escL o ++ [192] = l
    · rw [if_pos e, if_pos ⟨h.1, h.2, e⟩]
    · rw [if_neg e, if_neg (fun c => e c.2.2)]
  · rw [if_neg h, if_neg (fun c => h ⟨c.1, c.2.1⟩)]

theorem implUn_l0 (l : List Int) (hl : l.length ≤ 2000000) : ∀ (d k i : Nat) (o : List Int), l.length ≤ i + d → 2 * d + 60 ≤ k → o.length ≤ 17 → i ≤ l.length + 1 →
    ∃ o', impl_UnescapeBytes.l0 k l o (i : Int) = some (fin l o') ∧ ∀ t, l.drop i = escL t ++ [192] → o.length + t.length ≤ 16 → o' = o ++ t := by
  intro d
  induction d with
  | zero =>
    intro k i o hi hk ho hin
    obtain ⟨k, rfl⟩ : ∃ m, k = m + 2 := ⟨k - 2, by omega⟩
    simp only [impl_UnescapeBytes.l0]
    rw [step_nat i (by omega), if_neg (by omega)]
    refine ⟨o, implUn_fin l o k (by omega) _, fun t ht _ => ?_⟩
    rw [List.drop_eq_nil_of_le (by omega)] at ht
    exact absurd ht.symm (by simp)
  | succ d ih =>
    intro k i o hi hk ho hin
    obtain ⟨k, rfl⟩ : ∃ m, k = m + 2 := ⟨k - 2, by omega⟩
    simp only [impl_UnescapeBytes.l0]
    rw [step_nat i (by omega)]
    by_cases h1 : i + 1 < l.length
    · rw [if_pos (by omega)]
      by_cases h2 : o.length ≤ 16
      · rw [decide_eq_true (by omega : (o.length : Int) ≤ 16)]
        simp only [impl_UnescapeBytes.j1, if_true]
        have hd1 : l.drop i = l[i]'(by omega) :: l[i + 1]'(by omega) :: l.drop (i + 2) := by
          rw [List.drop_eq_getElem_cons (by omega : i < l.length), List.drop_eq_getElem_cons (by omega : i + 1 < l.length)]
        have hd2 : l.drop (i + 1) = l[i + 1]'(by omega) :: l.drop (i + 2) := List.drop_eq_getElem_cons (by omega : i + 1 < l.length)
        rw [if_pos (by omega), if_pos (by omega), step_nat i (by omega), step_nat (i + 1) (by omega), rd_nat l i (by omega), rd_nat l (i + 1) h1]
        generalize l[i]'(by omega) = x at hd1 ⊢
        generalize l[i + 1]'(by omega) = y at hd1 hd2 ⊢
        have hlen : ∀ z : Int, (o ++ [z]).length ≤ 17 := fun z => by rw [List.length_append, List.length_singleton]; omega
        by_cases h3 : x = 219
        · rw [if_pos h3, if_pos (by omega), if_pos (by omega)]
          by_cases h4 : y = 221
          · rw [if_pos h4, if_pos (by omega)]
            obtain ⟨o', he, ht⟩ := ih (k) (i + 1 + 1) (o ++ [219]) (by omega) (by omega) (hlen _) (by omega)
            refine ⟨o', he, fun t h5 h6 => ?_⟩
            rw [hd1] at h5
            rcases esc_cases t x _ h5 with ⟨_, e, _⟩ | ⟨t', e1, _, e2⟩ | ⟨t', e1, _, e2⟩ | ⟨t', _, _, e, _⟩
            · omega
            · have := (List.cons.inj e2).1
              omega
            · rw [e1] at h6 ⊢
              rw [List.length_cons] at h6
              rw [ht t' (List.cons.inj e2).2 (by rw [List.length_append, List.length_singleton]; omega)]
              simp
            · omega
          · rw [if_neg h4, if_pos (by omega)]
            obtain ⟨o', he, ht⟩ := ih (k) (i + 1 + 1) (o ++ [192]) (by omega) (by omega) (hlen _) (by omega)
            refine ⟨o', he, fun t h5 h6 => ?_⟩
            rw [hd1] at h5
            rcases esc_cases t x _ h5 with ⟨_, e, _⟩ | ⟨t', e1, _, e2⟩ | ⟨t', e1, _, e2⟩ | ⟨t', _, _, e, _⟩
            · omega
            · rw [e1] at h6 ⊢
              rw [List.length_cons] at h6
              rw [ht t' (List.cons.inj e2).2 (by rw [List.length_append, List.length_singleton]; omega)]
              simp
            · have := (List.cons.inj e2).1
              omega
            · omega
        · rw [if_neg h3, if_pos (by omega)]
          obtain ⟨o', he, ht⟩ := ih (k) (i + 1) (o ++ [x]) (by omega) (by omega) (hlen _) (by omega)
          refine ⟨o', he, fun t h5 h6 => ?_⟩
          rw [hd1] at h5
          rcases esc_cases t x _ h5 with ⟨_, _, e⟩ | ⟨t', _, e, _⟩ | ⟨t', _, e, _⟩ | ⟨t', e1, _, _, e2⟩
          · cases e
          · omega
          · omega
          · rw [e1] at h6 ⊢
            rw [List.length_cons] at h6
            rw [ht t' (hd2.trans e2) (by rw [List.length_append, List.length_singleton]; omega)]
            simp
      · rw [decide_eq_false (by omega : ¬ (o.length : Int) ≤ 16)]
        exact ⟨o, implUn_fin l o k (by omega) _, fun t _ h => by omega⟩
    · rw [if_neg (by omega)]
      refine ⟨o, implUn_fin l o k (by omega) _, fun t ht _ => ?_⟩
      have hle := congrArg List.length ht
      rw [List.length_drop, List.length_append, List.length_singleton] at hle
      cases t with
      | nil => simp
      | cons y t =>
        rw [escL_cons, List.length_append] at hle
        have := (esc1_length y).1
        omega

theorem implUn_ok (l : List Int) (hl : l.length ≤ 2000000) (k : Nat) (hk : 2 * l.length + 60 ≤ k) :
    ∃ o', impl_UnescapeBytes.f k l = some (fin l o') ∧ ∀ t, l = escL t ++ [192] → t.length ≤ 16 → o' = t := by
  obtain ⟨o', h1, h2⟩ := implUn_l0 l hl l.length k 0 [] (by omega) hk (by simp) (by omega)
  exact ⟨o', h1, fun t ht h => by simpa using h2 t (by simpa using ht) (by simpa using h)⟩


theorem esc_end (t : List Int) (i : Nat) (h : i < (escL t ++ [192]).length) (hb : ∀ x ∈ t, 0 ≤ x ∧ x ≤ 255) : ((escL t ++ [192])[i] = 192 ↔ i + 1 = (escL t ++ [192]).length) := by
  rw [List.length_append, List.length_singleton]
  rw [List.length_append, List.length_singleton] at h
  by_cases e : i < (escL t).length
  · rw [List.getElem_append_left e]
    refine ⟨fun h1 => ?_, fun h1 => by omega⟩
    have hm : (192 : Int) ∈ escL t := h1 ▸ List.getElem_mem e
    unfold escL at hm
    rw [List.mem_flatMap] at hm
    obtain ⟨y, _, hy⟩ := hm
    unfold esc1 at hy
    split at hy
    · simp at hy
    · split at hy
      · simp at hy
      · simp at hy; omega
  · rw [List.getElem_append_right (by omega)]
    simp
    omega

theorem law_l0 (l out : List Int) (hok : okB l = true) (hl : l.length ≤ 16) (ho : out = escL l ++ [192]) : ∀ (d k i : Nat), i + d = out.length → d + 200 ≤ k → laws_FnEscapeBytes.l0 k l out (i : Int) = some true := by
  have hlen : out.length ≤ 33 := by
    have := escL_length l
    rw [ho, List.length_append, List.length_singleton]
    omega
  intro d
  induction d with
  | zero =>
    intro k i hi hk
    obtain ⟨k, rfl⟩ : ∃ m, k = m + 1 := ⟨k - 1, by omega⟩
    simp only [laws_FnEscapeBytes.l0]
    rw [if_neg (by omega)]
    obtain ⟨o', h1, h2⟩ := implUn_ok out (by omega) k (by omega)
    rw [h2 l ho hl] at h1
    have hf : fin out l = (l, true) := by unfold fin; rw [if_pos ⟨hok, hl, ho.symm⟩]
    rw [h1, hf]
    simp only [Option.bind_some, if_true, equalInts_self l (by omega) k (by omega)]
    rw [IntWalk.wrap64_in (2 * (l.length : Int)) (by omega), IntWalk.wrap64_in (2 * (l.length : Int) + 1) (by omega)]
    rw [decide_eq_true]
    have := escL_length l
    rw [ho, List.length_append, List.length_singleton]
    omega
  | succ d ih =>
    intro k i hi hk
    obtain ⟨k, rfl⟩ : ∃ m, k = m + 1 := ⟨k - 1, by omega⟩
    simp only [laws_FnEscapeBytes.l0]
    rw [if_pos (by omega), if_pos (by omega), step_nat i (by omega), rd_nat out i (by omega)]
    rw [(IntWalk.wrap64_in ((out.length : Int) - 1) (by omega))]
    have hcmp : ((out[i]'(by omega) == 192) != ((i : Int) == (out.length : Int) - 1)) = false := by
      have he : (out[i]'(by omega) = 192) ↔ i + 1 = out.length := by
        subst ho
        exact esc_end l i (by omega) ((okB_iff l).1 hok)
      by_cases e : i + 1 = out.length
      · have e1 : (i : Int) = (out.length : Int) - 1 := by omega
        rw [beq_iff_eq.mpr (he.2 e), beq_iff_eq.mpr e1]
        rfl
      · have e1 : ¬ (i : Int) = (out.length : Int) - 1 := by omega
        rw [beq_eq_false_iff_ne.mpr (fun h => e (he.1 h)), beq_eq_false_iff_ne.mpr e1]
        rfl
    rw [hcmp]
    simp only [Bool.false_eq_true, if_false]
    exact ih k (i + 1) (by omega) (by omega)

theorem FnEscapeBytes : laws_FnEscapeBytes.Pure := by
  intro l0 _ _ hw
  by_cases hc : (l0.length : Int) > 1048576
  · exact ⟨0, by unfold laws_FnEscapeBytes.f; rw [if_pos hc]⟩
  · refine ⟨400, ?_⟩
    obtain ⟨b, hr, hb, hn⟩ := reader_ok l0 hw
    obtain ⟨l, p', hs, hlen, _, _, _⟩ := someBytes_ok b hb hn 16 400 (by omega) 0 (by omega) (by omega)
    have he := escB_length l
    unfold laws_FnEscapeBytes.f spec_DrawEscapeBytes.f
    rw [if_neg hc]
    simp (disch := omega) only [hr, Option.bind_some, hs, implEsc_ok, specEsc_ok, if_true, equalInts_self]
    by_cases h : okB l = true ∧ l.length ≤ 16
    · have hv : escB l = escL l ++ [192] := by unfold escB; rw [if_pos h]
      have h0 : (((escB l).length : Int) == 0) = false := beq_eq_false_iff_ne.mpr (by rw [hv]; simp; omega)
      rw [h0]
      simp only [laws_FnEscapeBytes.j0, Bool.false_eq_true, if_false]
      exact law_l0 l (escB l) h.1 h.2 hv (escB l).length 399 0 (by omega) (by omega)
    · have hv : escB l = [] := by unfold escB; rw [if_neg h]
      have h0 : (((escB l).length : Int) == 0) = true := by rw [hv]; rfl
      rw [h0]
      simp (disch := omega) only [laws_FnEscapeBytes.j0, if_true, specEsc_ok, Option.bind_some, equalInts_self]

end Go.Proofs.Ytfklnhjipahonaa.Pure
