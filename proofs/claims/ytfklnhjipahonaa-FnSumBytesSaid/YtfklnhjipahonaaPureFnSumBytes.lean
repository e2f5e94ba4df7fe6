/- Sums close: FnSumBytes returns true for every list of bytes. Conditions: none. -/
import Derived.Test.YtfklnhjipahonaaHFnSumBytesx3
namespace Go.Proofs.Ytfklnhjipahonaa.Pure
open Go.RowKit Go.Proofs.Ytfklnhjipahonaa.HFnSumBytes Go.Proofs.YtfklnhjipahonaaW.PrintWords Go.Proofs.YtfklnhjipahonaaW.PrintLast
open Go
set_option linter.unusedVariables false
set_option linter.unusedSimpArgs false

theorem rd_nat (l : List Int) (i : Nat) (h : i < l.length) : rd l (i : Int) = l[i] := by
  unfold rd
  rw [Int.toNat_natCast, List.getD_eq_getElem?_getD, List.getElem?_eq_getElem h]
  rfl

theorem step_nat (i : Nat) (h : i < 4611686018427387904) : wrap64 ((i : Int) + 1) = ((i + 1 : Nat) : Int) := by
  rw [IntWalk.wrap64_in ((i : Int) + 1) (by omega)]
  rfl

/-- Numbers of one byte. -/
def okB (l : List Int) : Bool := l.all fun x => decide (0 ≤ x ∧ x ≤ 255)

theorem okB_iff (l : List Int) : okB l = true ↔ ∀ x ∈ l, 0 ≤ x ∧ x ≤ 255 := by simp [okB]

theorem inRange_val (x a b : Int) : spec_inRange.f x a b = some (decide (a ≤ x ∧ x ≤ b)) := by
  unfold spec_inRange.f
  by_cases h : a ≤ x
  · rw [if_pos h]; simp [h]
  · rw [if_neg h]; simp [h]

theorem validBytes_l0 (l : List Int) (m : Int) (hl : l.length ≤ 2000000) : ∀ (d k i : Nat), i + d = l.length → d < k → spec_validBytes.l0 k l m (i : Int) = some (okB (l.drop i) && decide ((l.length : Int) ≤ m)) := by
  intro d
  induction d with
  | zero =>
    intro k i hi hk
    obtain ⟨k, rfl⟩ : ∃ m, k = m + 1 := ⟨k - 1, by omega⟩
    simp only [spec_validBytes.l0]
    rw [if_neg (by omega), List.drop_eq_nil_of_le (by omega)]
    simp [okB]
  | succ d ih =>
    intro k i hi hk
    obtain ⟨k, rfl⟩ : ∃ m, k = m + 1 := ⟨k - 1, by omega⟩
    simp only [spec_validBytes.l0]
    rw [if_pos (by omega), if_pos (by omega), step_nat i (by omega), rd_nat l i (by omega), inRange_val]
    rw [List.drop_eq_getElem_cons (by omega : i < l.length)]
    simp only [Option.bind_some]
    by_cases e : 0 ≤ l[i]'(by omega) ∧ l[i]'(by omega) ≤ 255
    · rw [if_pos (decide_eq_true e), ih k (i + 1) (by omega) (by omega)]
      have h : okB (l[i]'(by omega) :: l.drop (i + 1)) = okB (l.drop (i + 1)) := by
        unfold okB
        rw [List.all_cons, decide_eq_true e, Bool.true_and]
      rw [h]
    · rw [if_neg (by simpa using e)]
      have h : okB (l[i]'(by omega) :: l.drop (i + 1)) = false := by
        unfold okB
        rw [List.all_cons, decide_eq_false e, Bool.false_and]
      rw [h, Bool.false_and]

theorem validBytes_ok (l : List Int) (m : Int) (hl : l.length ≤ 2000000) (k : Nat) (hk : l.length < k) : spec_validBytes.f k l m = some (okB l && decide ((l.length : Int) ≤ m)) := by
  unfold spec_validBytes.f
  exact validBytes_l0 l m hl l.length k 0 (by omega) hk

theorem bytesAlone_val (l : List Int) : impl_bytesAlone.f l = some (okB l) := by
  unfold impl_bytesAlone.f okB
  congr 1
  induction l with
  | nil => rfl
  | cons x l ih =>
    rw [List.any_cons, List.all_cons, ← ih]
    have h : (decide (x < 0) || decide (x > 255)) = !(decide (0 ≤ x ∧ x ≤ 255)) := by
      by_cases h1 : x < 0
      · simp [h1]
      · by_cases h2 : x > 255
        · simp [h2]
        · simp [h1, h2]; omega
    rw [h, Bool.not_or, Bool.not_not]

theorem bytesOk_val (l : List Int) : impl_bytesOk.f l = some (okB l && decide (l.length ≤ 16)) := by
  unfold impl_bytesOk.f
  rw [bytesAlone_val]
  simp only [Option.bind_some]
  by_cases h : l.length ≤ 16
  · rw [if_pos (by omega)]; simp [h]
  · rw [if_neg (by omega)]; simp [h]

/-- A carry beyond 65535 added again. -/
def cap (y : Int) : Int := if y > 65535 then y - 65535 else y
/-- The running sum of bytes two by two, from place i on. -/
def ocsum : List Int → Nat → Int → Int
  | [], _, s => s
  | x :: t, i, s => ocsum t (i + 1) (cap (s + (if i % 2 = 0 then 256 * x else x)))

theorem cap_range (y : Int) (h0 : 0 ≤ y) (h1 : y ≤ 131070) : 0 ≤ cap y ∧ cap y ≤ 65535 := by
  unfold cap
  split <;> omega

theorem ocsum_range : ∀ (l : List Int) (i : Nat) (s : Int), (∀ x ∈ l, 0 ≤ x ∧ x ≤ 255) → 0 ≤ s → s ≤ 65535 → 0 ≤ ocsum l i s ∧ ocsum l i s ≤ 65535
  | [], _, _, _, h0, h1 => ⟨h0, h1⟩
  | x :: t, i, s, hx, h0, h1 => by
    have hb := hx x (List.mem_cons_self ..)
    have hc := cap_range (s + (if i % 2 = 0 then 256 * x else x)) (by split <;> omega) (by split <;> omega)
    exact ocsum_range t (i + 1) _ (fun y hy => hx y (List.mem_cons_of_mem _ hy)) hc.1 hc.2

theorem implSum_l0 (l : List Int) (hl : l.length ≤ 16) (hb : ∀ x ∈ l, 0 ≤ x ∧ x ≤ 255) : ∀ (d k i : Nat) (s : Int), i + d = l.length → d < k → 0 ≤ s → s ≤ 65535 →
    impl_SumBytes.l0 k s l (l.length : Int) (i : Int) = some (65535 - ocsum (l.drop i) i s) := by
  intro d
  induction d with
  | zero =>
    intro k i s hi hk hs hs'
    obtain ⟨k, rfl⟩ : ∃ m, k = m + 1 := ⟨k - 1, by omega⟩
    simp only [impl_SumBytes.l0]
    rw [if_neg (by omega), List.drop_eq_nil_of_le (by omega), IntWalk.wrap64_in (65535 - s) (by omega)]
    rfl
  | succ d ih =>
    intro k i s hi hk hs hs'
    obtain ⟨k, rfl⟩ : ∃ m, k = m + 1 := ⟨k - 1, by omega⟩
    simp only [impl_SumBytes.l0]
    have hx := hb (l[i]'(by omega)) (List.getElem_mem _)
    rw [if_pos (by omega), if_pos (by omega), if_pos (by omega), step_nat i (by omega), rd_nat l i (by omega), Int.tmod_eq_emod_of_nonneg (by omega : 0 ≤ (i : Int))]
    rw [List.drop_eq_getElem_cons (by omega : i < l.length)]
    simp only [ocsum]
    generalize l[i]'(by omega) = x at hx ⊢
    have key : ∀ y : Int, 0 ≤ y → y ≤ 131070 → wrap64 (Int.tmod y 65536 + wrap64 (Int.tdiv y 65536)) = cap y := by
      intro y h0 h1
      rw [Int.tmod_eq_emod_of_nonneg h0, Int.tdiv_eq_ediv_of_nonneg h0, IntWalk.wrap64_in (y / 65536) (by omega), IntWalk.wrap64_in (y % 65536 + y / 65536) (by omega)]
      unfold cap
      split <;> omega
    by_cases e : i % 2 = 0
    · rw [if_pos (by omega), if_pos e, IntWalk.wrap64_in (x * 256) (by omega), IntWalk.wrap64_in (s + x * 256) (by omega), key _ (by omega) (by omega), show s + x * 256 = s + 256 * x by omega]
      have hc := cap_range (s + 256 * x) (by omega) (by omega)
      exact ih k (i + 1) _ (by omega) (by omega) hc.1 hc.2
    · rw [if_neg (by omega), if_neg e, IntWalk.wrap64_in (s + x) (by omega), key _ (by omega) (by omega)]
      have hc := cap_range (s + x) (by omega) (by omega)
      exact ih k (i + 1) _ (by omega) (by omega) hc.1 hc.2

theorem specSum_l0 (l : List Int) (hl : l.length ≤ 16) (hb : ∀ x ∈ l, 0 ≤ x ∧ x ≤ 255) : ∀ (d k i : Nat) (s : Int), i + d = l.length → d < k → 0 ≤ s → s ≤ 65535 →
    spec_SumBytes.l0 k l s (i : Int) = some (65535 - ocsum (l.drop i) i s) := by
  intro d
  induction d with
  | zero =>
    intro k i s hi hk hs hs'
    obtain ⟨k, rfl⟩ : ∃ m, k = m + 1 := ⟨k - 1, by omega⟩
    simp only [spec_SumBytes.l0]
    rw [if_neg (by omega), List.drop_eq_nil_of_le (by omega), IntWalk.wrap64_in (65535 - s) (by omega)]
    rfl
  | succ d ih =>
    intro k i s hi hk hs hs'
    obtain ⟨k, rfl⟩ : ∃ m, k = m + 1 := ⟨k - 1, by omega⟩
    simp only [spec_SumBytes.l0]
    have hx := hb (l[i]'(by omega)) (List.getElem_mem _)
    rw [if_pos (by omega), if_pos (by omega), step_nat i (by omega), rd_nat l i (by omega), Int.tmod_eq_emod_of_nonneg (by omega : 0 ≤ (i : Int))]
    rw [List.drop_eq_getElem_cons (by omega : i < l.length)]
    simp only [ocsum]
    generalize l[i]'(by omega) = x at hx ⊢
    have key : ∀ y : Int, 0 ≤ y → y ≤ 131070 → (if y > 65535 then spec_SumBytes.l0 k l (wrap64 (y - 65535)) ((i + 1 : Nat) : Int) else spec_SumBytes.l0 k l y ((i + 1 : Nat) : Int)) = spec_SumBytes.l0 k l (cap y) ((i + 1 : Nat) : Int) := by
      intro y h0 h1
      unfold cap
      split
      · rw [IntWalk.wrap64_in (y - 65535) (by omega)]
      · rfl
    by_cases e : i % 2 = 0
    · rw [if_pos (by omega), if_pos e, IntWalk.wrap64_in (256 * x) (by omega), IntWalk.wrap64_in (s + 256 * x) (by omega), key _ (by omega) (by omega)]
      have hc := cap_range (s + 256 * x) (by omega) (by omega)
      exact ih k (i + 1) _ (by omega) (by omega) hc.1 hc.2
    · rw [if_neg (by omega), if_neg e, IntWalk.wrap64_in (s + x) (by omega), key _ (by omega) (by omega)]
      have hc := cap_range (s + x) (by omega) (by omega)
      exact ih k (i + 1) _ (by omega) (by omega) hc.1 hc.2

/-- What both return. -/
def sumB (l : List Int) : Int := if okB l = true ∧ l.length ≤ 16 then 65535 - ocsum l 0 0 else -1

theorem implSum_ok (l : List Int) (k : Nat) (hk : l.length < k) : impl_SumBytes.f k l = some (sumB l) := by
  unfold impl_SumBytes.f sumB
  rw [bytesOk_val]
  simp only [Option.bind_some, Bool.and_eq_true, decide_eq_true_eq]
  by_cases h : okB l = true ∧ l.length ≤ 16
  · rw [if_pos h, if_pos h]
    exact implSum_l0 l h.2 ((okB_iff l).1 h.1) l.length k 0 0 (by omega) hk (by omega) (by omega)
  · rw [if_neg h, if_neg h]

theorem specSum_ok (l : List Int) (hl : l.length ≤ 2000000) (k : Nat) (hk : l.length < k) : spec_SumBytes.f k l = some (sumB l) := by
  unfold spec_SumBytes.f sumB
  rw [validBytes_ok l 16 hl k hk]
  simp only [Option.bind_some, Bool.and_eq_true, decide_eq_true_eq]
  by_cases h : okB l = true ∧ l.length ≤ 16
  · rw [if_pos ⟨h.1, by omega⟩, if_pos h]
    exact specSum_l0 l h.2 ((okB_iff l).1 h.1) l.length k 0 0 (by omega) hk (by omega) (by omega)
  · rw [if_neg (fun e => h ⟨e.1, by omega⟩), if_neg h]

theorem xor64_range (a b : Int) (ha : 0 ≤ a) (ha' : a < 1073741824) (hb : 0 ≤ b) (hb' : b < 1073741824) :
    0 ≤ Go.bits .xor .i64 a b ∧ Go.bits .xor .i64 a b < 1073741824 := by
  obtain ⟨m, rfl⟩ := Int.eq_ofNat_of_zero_le ha
  obtain ⟨n, rfl⟩ := Int.eq_ofNat_of_zero_le hb
  have hm : m < 2 ^ 30 := by omega
  have hn : n < 2 ^ 30 := by omega
  have hx : m ^^^ n < 2 ^ 30 := Nat.xor_lt_two_pow hm hn
  have hm' : m % 2 ^ IntKind.i64.bits = m := Nat.mod_eq_of_lt (Nat.lt_of_lt_of_le hm (by decide))
  have hn' : n % 2 ^ IntKind.i64.bits = n := Nat.mod_eq_of_lt (Nat.lt_of_lt_of_le hn (by decide))
  simp only [Go.bits, BitVec.ofInt_natCast, BitVec.toNat_xor, BitVec.toNat_ofNat, hm', hn']
  rw [IntWalk.i64_in ((m ^^^ n : Nat) : Int) (by omega)]
  omega

theorem rd_range (l : List Int) (hl : ∀ x ∈ l, 0 ≤ x ∧ x ≤ 255) (i : Int) : 0 ≤ rd l i ∧ rd l i ≤ 255 := by
  unfold rd
  rw [List.getD_eq_getElem?_getD]
  cases h : l[i.toNat]? with
  | none => simp
  | some v => exact hl v (List.mem_of_getElem? h)

theorem tmod_range (a n : Int) (ha : 0 ≤ a) (hn : 1 ≤ n) : 0 ≤ Int.tmod a n ∧ Int.tmod a n < n :=
  ⟨Int.tmod_nonneg n ha, Int.tmod_lt_of_pos a (by omega)⟩

theorem pick_ok (l : List Int) (hl : ∀ x ∈ l, 0 ≤ x ∧ x ≤ 255) (hn : l.length ≤ 2000) (k : Nat) (p n : Int) (hp : 0 ≤ p) (hp' : p ≤ 1000000) :
    ∃ v, spec_reader_pick.f (k + 1) l p n = some (v, p + 1) ∧ 0 ≤ v ∧ (1 ≤ n → v < n) := by
  have hw : wrap64 (p + 1) = p + 1 := IntWalk.wrap64_in _ (by omega)
  unfold spec_reader_pick.f
  rw [hw]
  by_cases h1 : n < 1
  · rw [if_pos h1]
    exact ⟨0, by simp [spec_reader_pick.j0], by omega, fun h => by omega⟩
  · rw [if_neg h1]
    by_cases h2 : l.length = 0
    · exact ⟨0, by simp [spec_reader_pick.j0, h2], by omega, fun h => by omega⟩
    · have hb : ((l.length : Int) == 0) = false := beq_eq_false_iff_ne.mpr (by omega)
      have hw1 : wrap64 (p + 1 - 1) = p := (IntWalk.wrap64_in (p + 1 - 1) (by omega)).trans (by omega)
      have hn0 : n ≠ 0 := by omega
      have hl0 : (l.length : Int) ≠ 0 := by omega
      simp only [spec_reader_pick.j0, hb, hw1, Bool.false_eq_true, if_false, hn0, hl0]
      by_cases h3 : p < (l.length : Int)
      · rw [if_pos h3, if_pos hp]
        have hr := rd_range l hl p
        rw [IntWalk.wrap64_in (rd l p) (by omega)]
        have ht := tmod_range (rd l p) n hr.1 (by omega)
        exact ⟨_, rfl, ht.1, fun _ => ht.2⟩
      · rw [if_neg h3]
        have hm1 := tmod_range p (l.length : Int) hp (by omega)
        rw [if_pos hm1.1, if_pos hm1.2]
        have hw7 : wrap64 (p * 7) = p * 7 := IntWalk.wrap64_in _ (by omega)
        have hw73 : wrap64 (p * 7 + 3) = p * 7 + 3 := IntWalk.wrap64_in _ (by omega)
        rw [hw7, hw73]
        have hm2 := tmod_range (p * 7 + 3) (l.length : Int) (by omega) (by omega)
        rw [if_pos hm2.1, if_pos hm2.2]
        have hr1 := rd_range l hl (Int.tmod p (l.length : Int))
        have hr2 := rd_range l hl (Int.tmod (p * 7 + 3) (l.length : Int))
        generalize rd l (Int.tmod p (l.length : Int)) = r1 at hr1 ⊢
        generalize rd l (Int.tmod (p * 7 + 3) (l.length : Int)) = r2 at hr2 ⊢
        have hq : 0 ≤ Int.tdiv p (l.length : Int) ∧ Int.tdiv p (l.length : Int) ≤ p := by
          rw [Int.tdiv_eq_ediv_of_nonneg hp]
          exact ⟨Int.ediv_nonneg hp (by omega), Int.ediv_le_self _ hp⟩
        generalize Int.tdiv p (l.length : Int) = q at hq ⊢
        simp (disch := omega) only [IntWalk.wrap64_in]
        have hX : 0 ≤ r1 * 131 + r2 * 1117 + p * 29 + q * 53 ∧ r1 * 131 + r2 * 1117 + p * 29 + q * 53 < 1073741824 := by omega
        generalize r1 * 131 + r2 * 1117 + p * 29 + q * 53 = X at hX ⊢
        have hd : 0 ≤ Int.tdiv X 64 ∧ Int.tdiv X 64 < 1073741824 := by
          rw [Int.tdiv_eq_ediv_of_nonneg hX.1]; omega
        rw [IntWalk.wrap64_in (Int.tdiv X 64) (by omega)]
        have hx := xor64_range X (Int.tdiv X 64) hX.1 hX.2 hd.1 hd.2
        have ht := tmod_range (Go.bits .xor .i64 X (Int.tdiv X 64)) n hx.1 (by omega)
        exact ⟨_, rfl, ht.1, fun _ => ht.2⟩

theorem reader_ok (l0 : List Int) (hw : ∀ x ∈ l0, (Lit.int .u8 x).wf = true) :
    ∃ l, spec_newReader.f l0 = some (l, 0) ∧ (∀ x ∈ l, 0 ≤ x ∧ x ≤ 255) ∧ l.length ≤ 2000 := by
  have hb : ∀ x ∈ l0, 0 ≤ x ∧ x ≤ 255 := by
    intro x hx
    have h := hw x hx
    simp [Lit.wf, IntKind.min, IntKind.max, IntKind.signed, IntKind.bits] at h
    omega
  unfold spec_newReader.f
  by_cases h : (l0.length : Int) > 2000
  · rw [if_pos h, if_pos (by omega)]
    exact ⟨_, rfl, fun x hx => hb x (List.mem_of_mem_take hx), by rw [List.length_take]; omega⟩
  · rw [if_neg h]
    exact ⟨_, rfl, hb, by omega⟩

theorem one_ok (l : List Int) (hl : ∀ x ∈ l, 0 ≤ x ∧ x ≤ 255) (hn : l.length ≤ 2000) (k : Nat) (p : Int) (xs : List Int) (hp : 0 ≤ p) (hp' : p ≤ 1000000) (hx : 1 ≤ xs.length) :
    ∃ v, spec_reader_one.f (k + 1) l p xs = some (v, p + 1) ∧ v ∈ xs := by
  obtain ⟨v, hv, h0, h1⟩ := pick_ok l hl hn k p (xs.length : Int) hp hp'
  have h2 := h1 (by omega)
  unfold spec_reader_one.f
  rw [hv]
  simp only [Option.bind_some]
  rw [if_pos h0, if_pos h2]
  refine ⟨_, rfl, ?_⟩
  unfold rd
  have h3 : v.toNat < xs.length := by omega
  rw [List.getD_eq_getElem?_getD, List.getElem?_eq_getElem h3]
  exact List.getElem_mem h3

theorem someBytes_end (l : List Int) (hb : ∀ x ∈ l, 0 ≤ x ∧ x ≤ 255) (hn : l.length ≤ 2000) (most : Int) (k : Nat) (o : List Int) (n p : Int) (hp : 0 ≤ p) (hp' : p ≤ 900000) (ho : o.length ≤ 1000) (hx : ∀ x ∈ o, -1 ≤ x ∧ x ≤ 256) :
    ∃ o' p', spec_someBytes.j1 (k + 2) most o n false l p = some (o', p') ∧ o'.length ≤ o.length + 17 ∧ (∀ x ∈ o', -1 ≤ x ∧ x ≤ 256) ∧ p ≤ p' ∧ p' ≤ p + 1 := by
  obtain ⟨v, hv, h0, h1⟩ := pick_ok l hb hn k p 30 hp (by omega)
  simp only [spec_someBytes.j1, Bool.false_eq_true, if_false, hv, Option.bind_some]
  have happ : ∀ y : List Int, (∀ x ∈ y, -1 ≤ x ∧ x ≤ 256) → ∀ x ∈ o ++ y, -1 ≤ x ∧ x ≤ 256 := fun y hy x hxx => by
    rcases List.mem_append.1 hxx with h | h
    · exact hx x h
    · exact hy x h
  by_cases e0 : v = 0
  · rw [if_pos e0, if_pos (by omega)]
    exact ⟨_, _, rfl, by simp, happ _ (by simp), by omega, by omega⟩
  · rw [if_neg e0]
    by_cases e1 : v = 1
    · rw [if_pos e1, if_pos (by omega)]
      exact ⟨_, _, rfl, by simp, happ _ (by simp), by omega, by omega⟩
    · rw [if_neg e1]
      by_cases e2 : v = 2
      · rw [if_pos e2, if_pos (by simp; omega)]
        exact ⟨_, _, rfl, by simp, happ _ (by simp), by omega, by omega⟩
      · rw [if_neg e2]
        exact ⟨_, _, rfl, by omega, hx, by omega, by omega⟩

theorem someBytes_l0 (l : List Int) (hb : ∀ x ∈ l, 0 ≤ x ∧ x ≤ 255) (hn : l.length ≤ 2000) (most : Int) : ∀ (n k : Nat) (o : List Int) (p : Int), 2 * n + 4 ≤ k → n ≤ 16 → 0 ≤ p → p ≤ 800000 - 3 * n → o.length + n ≤ 900 → (∀ x ∈ o, -1 ≤ x ∧ x ≤ 256) →
    ∃ o' p', spec_someBytes.l0 k most o (n : Int) l p = some (o', p') ∧ o'.length ≤ o.length + n + 17 ∧ (∀ x ∈ o', -1 ≤ x ∧ x ≤ 256) ∧ p ≤ p' ∧ p' ≤ p + 3 * n + 1 := by
  intro n
  induction n with
  | zero =>
    intro k o p hk _ hp hp' ho hx
    obtain ⟨k, rfl⟩ : ∃ m, k = m + 1 + 2 := ⟨k - 3, by omega⟩
    simp only [spec_someBytes.l0]
    rw [if_neg (by omega)]
    obtain ⟨o', p', h1, h2, h3, h4, h5⟩ := someBytes_end l hb hn most k o ((0 : Nat) : Int) p hp (by omega) (by omega) hx
    exact ⟨o', p', h1, by omega, h3, h4, by omega⟩
  | succ n ih =>
    intro k o p hk hn16 hp hp' ho hx
    obtain ⟨k, rfl⟩ : ∃ m, k = m + 1 + 2 := ⟨k - 3, by omega⟩
    simp only [spec_someBytes.l0]
    rw [if_pos (by omega)]
    by_cases hm : (o.length : Int) < most
    · rw [decide_eq_true hm]
      obtain ⟨a, ha, ha0, ha1⟩ := pick_ok l hb hn k p 256 hp (by omega)
      obtain ⟨b, hb1, hb0, hb2⟩ := pick_ok l hb hn k (p + 1) 4 (by omega) (by omega)
      obtain ⟨c, hc, hmem⟩ := one_ok l hb hn k (p + 1 + 1) [a, 0, 192, 219, b, 255] (by omega) (by omega) (by simp)
      have hcr : -1 ≤ c ∧ c ≤ 256 := by
        have h1 := ha1 (by omega)
        have h2 := hb2 (by omega)
        simp only [List.mem_cons, List.not_mem_nil, or_false] at hmem
        omega
      simp only [spec_someBytes.j1, if_true, ha, hb1, hc, Option.bind_some]
      rw [if_pos (by omega), (IntWalk.wrap64_in (((n + 1 : Nat) : Int) - 1) (by omega)).trans (show ((n + 1 : Nat) : Int) - 1 = (n : Int) by omega)]
      obtain ⟨o', p', h1, h2, h3, h4, h5⟩ := ih (k + 1) (o ++ [c]) (p + 1 + 1 + 1) (by omega) (by omega) (by omega) (by omega) (by rw [List.length_append, List.length_singleton]; omega) (fun x hxx => by
        rcases List.mem_append.1 hxx with h | h
        · exact hx x h
        · rw [List.mem_singleton.1 h]; exact hcr)
      rw [List.length_append, List.length_singleton] at h2
      exact ⟨o', p', h1, by omega, h3, by omega, by omega⟩
    · rw [decide_eq_false hm]
      obtain ⟨o', p', h1, h2, h3, h4, h5⟩ := someBytes_end l hb hn most k o ((n + 1 : Nat) : Int) p hp (by omega) (by omega) hx
      exact ⟨o', p', h1, by omega, h3, h4, by omega⟩

theorem someBytes_ok (l : List Int) (hb : ∀ x ∈ l, 0 ≤ x ∧ x ≤ 255) (hn : l.length ≤ 2000) (most : Int) (k : Nat) (hk : 40 ≤ k) (p : Int) (hp : 0 ≤ p) (hp' : p ≤ 700000) :
    ∃ o' p', spec_someBytes.f k l p most = some (o', p') ∧ o'.length ≤ 33 ∧ (∀ x ∈ o', -1 ≤ x ∧ x ≤ 256) ∧ p ≤ p' ∧ p' ≤ p + 50 := by
  obtain ⟨k, rfl⟩ : ∃ m, k = m + 1 := ⟨k - 1, by omega⟩
  obtain ⟨v, hv, hmem⟩ := one_ok l hb hn k p [4, 6, 3, 8, 2, 1, 0, 16] hp (by omega) (by simp)
  have hvr : 0 ≤ v ∧ v ≤ 16 := by
    simp only [List.mem_cons, List.not_mem_nil, or_false] at hmem
    omega
  obtain ⟨m, rfl⟩ := Int.eq_ofNat_of_zero_le hvr.1
  unfold spec_someBytes.f
  simp only [hv, Option.bind_some]
  obtain ⟨o', p', h1, h2, h3, h4, h5⟩ := someBytes_l0 l hb hn most m (k + 1) [] (p + 1) (by omega) (by omega) (by omega) (by omega) (by simp; omega) (by simp)
  simp only [List.length_nil] at h2
  exact ⟨o', p', h1, by omega, h3, by omega, by omega⟩

theorem ocsum_append : ∀ (l m : List Int) (i : Nat) (s : Int), ocsum (l ++ m) i s = ocsum m (i + l.length) (ocsum l i s)
  | [], m, i, s => rfl
  | x :: t, m, i, s => by
    rw [List.cons_append, ocsum, ocsum, ocsum_append t m, List.length_cons, show i + (t.length + 1) = i + 1 + t.length by omega]

theorem sum_closed (l : List Int) (hl : l.length ≤ 14) (he : l.length % 2 = 0) (hb : ∀ x ∈ l, 0 ≤ x ∧ x ≤ 255) (out : Int) (ho : out = 65535 - ocsum l 0 0) : sumB (l ++ [wrap64 (Int.tdiv out 256), Int.tmod out 256]) = 0 := by
  have hr := ocsum_range l 0 0 hb (by omega) (by omega)
  have e1 : wrap64 (Int.tdiv out 256) = out / 256 := by rw [Int.tdiv_eq_ediv_of_nonneg (by omega), IntWalk.wrap64_in (out / 256) (by omega)]
  have e2 : Int.tmod out 256 = out % 256 := Int.tmod_eq_emod_of_nonneg (by omega)
  rw [e1, e2]
  unfold sumB
  have hok : okB (l ++ [out / 256, out % 256]) = true := by
    rw [okB_iff]
    intro x hx
    rcases List.mem_append.1 hx with h | h
    · exact hb x h
    · simp only [List.mem_cons, List.not_mem_nil, or_false] at h
      omega
  rw [if_pos ⟨hok, by rw [List.length_append]; simp only [List.length_cons, List.length_nil]; omega⟩, ocsum_append, ocsum, ocsum, ocsum, if_pos (by omega), if_neg (by omega)]
  generalize ocsum l 0 0 = s at ho hr
  unfold cap
  rw [if_neg (show ¬ s + 256 * (out / 256) > 65535 by omega), if_neg (by omega)]
  omega

theorem cap4 (a b c d : Int) (ha : 0 ≤ a ∧ a ≤ 255) (hb : 0 ≤ b ∧ b ≤ 255) (hc : 0 ≤ c ∧ c ≤ 255) (hd : 0 ≤ d ∧ d ≤ 255) : cap (cap (cap (cap (0 + 256 * c) + d) + 256 * a) + b) = cap (cap (cap (cap (0 + 256 * a) + b) + 256 * c) + d) := by
  have k : ∀ a b c d : Int, (0 ≤ a ∧ a ≤ 255) → (0 ≤ b ∧ b ≤ 255) → (0 ≤ c ∧ c ≤ 255) → (0 ≤ d ∧ d ≤ 255) → cap (cap (cap (cap (0 + 256 * a) + b) + 256 * c) + d) = cap (256 * a + b + (256 * c + d)) := by
    intro a b c d ha hb hc hd
    have e1 : cap (0 + 256 * a) = 256 * a := by unfold cap; rw [if_neg (by omega)]; omega
    have e2 : cap (256 * a + b) = 256 * a + b := by unfold cap; rw [if_neg (by omega)]
    rw [e1, e2]
    by_cases h : 256 * a + b + 256 * c > 65535
    · have e3 : cap (256 * a + b + 256 * c) = 256 * a + b + 256 * c - 65535 := by unfold cap; rw [if_pos h]
      have e4 : cap (256 * a + b + (256 * c + d)) = 256 * a + b + (256 * c + d) - 65535 := by unfold cap; rw [if_pos (by omega)]
      rw [e3, e4]
      unfold cap
      rw [if_neg (by omega)]
      omega
    · have e3 : cap (256 * a + b + 256 * c) = 256 * a + b + 256 * c := by unfold cap; rw [if_neg h]
      rw [e3]
      congr 1
      omega
  rw [k c d a b hc hd ha hb, k a b c d ha hb hc hd]
  congr 1
  omega

theorem sum_turned (l : List Int) (h4 : 4 ≤ l.length) (hl : l.length ≤ 16) (hb : ∀ x ∈ l, 0 ≤ x ∧ x ≤ 255) : sumB ((([] ++ (l.take 4).drop 2) ++ l.take 2) ++ l.drop 4) = sumB l := by
  match l, h4 with
  | a :: b :: c :: d :: t, _ =>
    have ha := hb a (by simp)
    have hb' := hb b (by simp)
    have hc := hb c (by simp)
    have hd := hb d (by simp)
    have e : (([] ++ ((a :: b :: c :: d :: t).take 4).drop 2) ++ (a :: b :: c :: d :: t).take 2) ++ (a :: b :: c :: d :: t).drop 4 = c :: d :: a :: b :: t := rfl
    rw [e]
    unfold sumB
    have o1 : okB (a :: b :: c :: d :: t) = true := (okB_iff _).2 hb
    have o2 : okB (c :: d :: a :: b :: t) = true := by
      rw [okB_iff]
      intro x hx
      apply hb
      simp only [List.mem_cons] at hx ⊢
      rcases hx with h | h | h | h | h <;> simp [h]
    have hl' : (c :: d :: a :: b :: t).length ≤ 16 := hl
    rw [if_pos ⟨o2, hl'⟩, if_pos ⟨o1, hl⟩]
    congr 1
    have n1 : ¬ (0 + 1) % 2 = 0 := by omega
    have n3 : ¬ (0 + 1 + 1 + 1) % 2 = 0 := by omega
    simp only [ocsum, if_true, n1, n3, if_false]
    rw [cap4 a b c d ha hb' hc hd]

theorem sum_tail (k : Nat) (n out : Int) (y : List Int) (hy : y.length < k) (ho : out ≤ 65535) (h : ¬ n < 4 → sumB y = out) :
    (if n < 4 then (some (decide (out ≤ 65535))) else ((impl_SumBytes.f k y).bind fun t200 => (if t200 = out then (some (decide (out ≤ 65535))) else (some false)))) = some true := by
  rw [decide_eq_true ho]
  by_cases h4 : n < 4
  · rw [if_pos h4]
  · rw [if_neg h4, implSum_ok y k hy, Option.bind_some, if_pos (h h4)]

theorem sum_j0 (k : Nat) (hk : 100 ≤ k) (l : List Int) (hl : l.length ≤ 16) (hb : ∀ x ∈ l, 0 ≤ x ∧ x ≤ 255) : laws_FnSumBytes.j0 (k + 1) l (65535 - ocsum l 0 0) false = some true := by
  have hr := ocsum_range l 0 0 hb (by omega) (by omega)
  have hS : sumB l = 65535 - ocsum l 0 0 := by
    unfold sumB
    rw [if_pos ⟨(okB_iff _).2 hb, hl⟩]
  have hcl : l.length ≤ 14 → l.length % 2 = 0 → sumB (l ++ [wrap64 (Int.tdiv (65535 - ocsum l 0 0) 256), Int.tmod (65535 - ocsum l 0 0) 256]) = 0 := fun h1 h2 => sum_closed l h1 h2 hb _ rfl
  generalize 65535 - ocsum l 0 0 = out at hS hcl hr
  have ho : out ≤ 65535 ∧ 0 ≤ out := by
    have := ocsum_range l 0 0 hb (by omega) (by omega)
    have h2 : sumB l = 65535 - ocsum l 0 0 := by
      unfold sumB
      rw [if_pos ⟨(okB_iff _).2 hb, hl⟩]
    omega
  have hend : ∀ (y z : List Int), y.length < k → z = l ++ [wrap64 (Int.tdiv out 256), Int.tmod out 256] → (¬ (l.length : Int) < 4 → sumB y = out) →
      (if ((l.length : Int) % 2) = 1 then (if (l.length : Int) < 4 then (some (decide (out ≤ 65535))) else ((impl_SumBytes.f k y).bind fun t200 => (if t200 = out then (some (decide (out ≤ 65535))) else (some false)))) else (if (wrap64 ((l.length : Int) + 2)) > 16 then (if (l.length : Int) < 4 then (some (decide (out ≤ 65535))) else ((impl_SumBytes.f k y).bind fun t201 => (if t201 = out then (some (decide (out ≤ 65535))) else (some false)))) else ((impl_SumBytes.f k z).bind fun t202 => (if t202 = 0 then (if (l.length : Int) < 4 then (some (decide (out ≤ 65535))) else ((impl_SumBytes.f k y).bind fun t203 => (if t203 = out then (some (decide (out ≤ 65535))) else (some false)))) else (some false))))) = some true := by
    intro y z hy hz h
    have ht := sum_tail k (l.length : Int) out y hy ho.1 h
    by_cases h1 : ((l.length : Int) % 2) = 1
    · rw [if_pos h1, ht]
    · rw [if_neg h1, IntWalk.wrap64_in ((l.length : Int) + 2) (by omega)]
      by_cases h2 : (l.length : Int) + 2 > 16
      · rw [if_pos h2, ht]
      · rw [if_neg h2, implSum_ok z k (by rw [hz, List.length_append]; simp only [List.length_cons, List.length_nil]; omega), Option.bind_some, hz, hcl (by omega) (by omega), if_pos rfl, ht]
  rw [laws_FnSumBytes.j0, if_neg Bool.false_ne_true]
  simp only [Option.bind_some]
  by_cases h4 : (l.length : Int) ≥ 4
  · rw [if_pos h4, if_pos (by omega), if_pos (by omega), if_pos (by simp only [List.length_drop, List.length_take, List.length_nil]; omega), if_pos (by omega), if_pos (by simp only [List.length_append, List.length_drop, List.length_take, List.length_nil]; omega), if_pos (by simp only [List.length_append, List.length_drop, List.length_take, List.length_nil]; omega), if_pos (by simp only [List.length_nil]; omega), if_pos (by simp only [List.length_append, List.length_nil, List.length_cons]; omega)]
    exact hend _ _ (by simp only [List.length_append, List.length_drop, List.length_take, List.length_nil]; omega) (by rw [List.nil_append]) (fun _ => by rw [sum_turned l (by omega) hl hb, hS])
  · rw [if_neg h4, if_pos (by simp only [List.length_nil]; omega), if_pos (by simp only [List.length_append, List.length_nil, List.length_cons]; omega)]
    exact hend _ _ (by simp only [List.length_nil]; omega) (by rw [List.nil_append]) (fun h => absurd (by omega) h)

theorem FnSumBytes : laws_FnSumBytes.Pure := by
  intro l0 _ _ hw
  suffices H : ∀ k, 2000 ≤ k → laws_FnSumBytes.f (k + 1) l0 = some true from ⟨_, H 2000 (Nat.le_refl _)⟩
  intro k hk
  unfold laws_FnSumBytes.f
  by_cases hc : (l0.length : Int) > 1048576
  · rw [if_pos hc]
  · obtain ⟨b, hr, hb, hn⟩ := reader_ok l0 hw
    obtain ⟨o, p', e1, e2, _⟩ := someBytes_ok b hb hn 16 (k + 1) (by omega) 0 (by omega) (by omega)
    have hd : spec_DrawSumBytes.f (k + 1) l0 = some o := by
      unfold spec_DrawSumBytes.f
      rw [hr, Option.bind_some, e1, Option.bind_some]
    rw [if_neg hc, hd, Option.bind_some, implSum_ok o (k + 1) (by omega), Option.bind_some, specSum_ok o (by omega) (k + 1) (by omega), Option.bind_some, if_pos rfl]
    by_cases h : okB o = true ∧ o.length ≤ 16
    · have hb' := (okB_iff o).1 h.1
      have hS : sumB o = 65535 - ocsum o 0 0 := by
        unfold sumB
        rw [if_pos h]
      have hrange := ocsum_range o 0 0 hb' (by omega) (by omega)
      rw [hS, decide_eq_false (by omega)]
      exact sum_j0 k (by omega) o h.2 hb'
    · have hS : sumB o = -1 := by
        unfold sumB
        rw [if_neg h]
      rw [hS, decide_eq_true (by omega), laws_FnSumBytes.j0, if_pos rfl, specSum_ok o (by omega) k (by omega), Option.bind_some, hS]
      rfl

end Go.Proofs.Ytfklnhjipahonaa.Pure
