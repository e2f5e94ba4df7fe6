/- Pointed bytes have no noughts: FnPointBytes returns true for every list of bytes. Conditions: none. -/
import Derived.Test.YtfklnhjipahonaaHFnPointBytesx3
namespace Go.Proofs.Ytfklnhjipahonaa.Pure
open Go.RowKit Go.Proofs.Ytfklnhjipahonaa.HFnPointBytes Go.Proofs.YtfklnhjipahonaaW.PrintWords Go.Proofs.YtfklnhjipahonaaW.PrintLast
open Go
set_option linter.unusedVariables false
set_option linter.unusedSimpArgs false

theorem xor64_range (a b : Int) (ha : 0 ≤ a) (ha' : a < 1073741824) (hb : 0 ≤ b) (hb' : b < 1073741824) :
    0 ≤ Go.bits .xor .i64 a b ∧ Go.bits .xor .i64 a b < 1073741824 := by
  obtain ⟨m, rfl⟩ := Int.eq_ofNat_of_zero_le ha
  obtain ⟨n, rfl⟩ := Int.eq_ofNat_of_zero_le hb
  have hm : m < 2 ^ 30 := by omega
  have hn : n < 2 ^ 30 := by omega
  have hx : m ^^^ n < 2 ^ 30 := Nat.xor_lt_two_pow hm hn
  have hm' : m % 2 ^ IntKind.i64.bits = m := Nat.mod_eq_of_lt (Nat.lt_of_lt_of_le hm (by decide))
  have hn' : n % 2 ^ IntKind.i64.bits = n := Nat.mod_eq_of_lt (Nat.lt_of_lt_of_le hn (by decide))
  simp only [Go.bits, BitVec.ofInt_natCast, BitVec.toNat_xor, BitVec.toNat_ofNat, hm', hn']
  rw [IntWalk.i64_in ((m ^^^ n : Nat) : Int) (by omega)]
  omega

theorem rd_range (l : List Int) (hl : ∀ x ∈ l, 0 ≤ x ∧ x ≤ 255) (i : Int) : 0 ≤ rd l i ∧ rd l i ≤ 255 := by
  unfold rd
  rw [List.getD_eq_getElem?_getD]
  cases h : l[i.toNat]? with
  | none => simp
  | some v => exact hl v (List.mem_of_getElem? h)

theorem tmod_range (a n : Int) (ha : 0 ≤ a) (hn : 1 ≤ n) : 0 ≤ Int.tmod a n ∧ Int.tmod a n < n :=
  ⟨Int.tmod_nonneg n ha, Int.tmod_lt_of_pos a (by omega)⟩

theorem pick_ok (l : List Int) (hl : ∀ x ∈ l, 0 ≤ x ∧ x ≤ 255) (hn : l.length ≤ 2000) (k : Nat) (p n : Int) (hp : 0 ≤ p) (hp' : p ≤ 1000000) :
    ∃ v, spec_reader_pick.f (k + 1) l p n = some (v, p + 1) ∧ 0 ≤ v ∧ (1 ≤ n → v < n) := by
  have hw : wrap64 (p + 1) = p + 1 := IntWalk.wrap64_in _ (by omega)
  unfold spec_reader_pick.f
  rw [hw]
  by_cases h1 : n < 1
  · rw [if_pos h1]
    exact ⟨0, by simp [spec_reader_pick.j0], by omega, fun h => by omega⟩
  · rw [if_neg h1]
    by_cases h2 : l.length = 0
    · exact ⟨0, by simp [spec_reader_pick.j0, h2], by omega, fun h => by omega⟩
    · have hb : ((l.length : Int) == 0) = false := beq_eq_false_iff_ne.mpr (by omega)
      have hw1 : wrap64 (p + 1 - 1) = p := (IntWalk.wrap64_in (p + 1 - 1) (by omega)).trans (by omega)
      have hn0 : n ≠ 0 := by omega
      have hl0 : (l.length : Int) ≠ 0 := by omega
      simp only [spec_reader_pick.j0, hb, hw1, Bool.false_eq_true, if_false, hn0, hl0]
      by_cases h3 : p < (l.length : Int)
      · rw [if_pos h3, if_pos hp]
        have hr := rd_range l hl p
        rw [IntWalk.wrap64_in (rd l p) (by omega)]
        have ht := tmod_range (rd l p) n hr.1 (by omega)
        exact ⟨_, rfl, ht.1, fun _ => ht.2⟩
      · rw [if_neg h3]
        have hm1 := tmod_range p (l.length : Int) hp (by omega)
        rw [if_pos hm1.1, if_pos hm1.2]
        have hw7 : wrap64 (p * 7) = p * 7 := IntWalk.wrap64_in _ (by omega)
        have hw73 : wrap64 (p * 7 + 3) = p * 7 + 3 := IntWalk.wrap64_in _ (by omega)
        rw [hw7, hw73]
        have hm2 := tmod_range (p * 7 + 3) (l.length : Int) (by omega) (by omega)
        rw [if_pos hm2.1, if_pos hm2.2]
        have hr1 := rd_range l hl (Int.tmod p (l.length : Int))
        have hr2 := rd_range l hl (Int.tmod (p * 7 + 3) (l.length : Int))
        generalize rd l (Int.tmod p (l.length : Int)) = r1 at hr1 ⊢
        generalize rd l (Int.tmod (p * 7 + 3) (l.length : Int)) = r2 at hr2 ⊢
        have hq : 0 ≤ Int.tdiv p (l.length : Int) ∧ Int.tdiv p (l.length : Int) ≤ p := by
          rw [Int.tdiv_eq_ediv_of_nonneg hp]
          exact ⟨Int.ediv_nonneg hp (by omega), Int.ediv_le_self _ hp⟩
        generalize Int.tdiv p (l.length : Int) = q at hq ⊢
        simp (disch := omega) only [IntWalk.wrap64_in]
        have hX : 0 ≤ r1 * 131 + r2 * 1117 + p * 29 + q * 53 ∧ r1 * 131 + r2 * 1117 + p * 29 + q * 53 < 1073741824 := by omega
        generalize r1 * 131 + r2 * 1117 + p * 29 + q * 53 = X at hX ⊢
        have hd : 0 ≤ Int.tdiv X 64 ∧ Int.tdiv X 64 < 1073741824 := by
          rw [Int.tdiv_eq_ediv_of_nonneg hX.1]; omega
        rw [IntWalk.wrap64_in (Int.tdiv X 64) (by omega)]
        have hx := xor64_range X (Int.tdiv X 64) hX.1 hX.2 hd.1 hd.2
        have ht := tmod_range (Go.bits .xor .i64 X (Int.tdiv X 64)) n hx.1 (by omega)
        exact ⟨_, rfl, ht.1, fun _ => ht.2⟩

theorem reader_ok (l0 : List Int) (hw : ∀ x ∈ l0, (Lit.int .u8 x).wf = true) :
    ∃ l, spec_newReader.f l0 = some (l, 0) ∧ (∀ x ∈ l, 0 ≤ x ∧ x ≤ 255) ∧ l.length ≤ 2000 := by
  have hb : ∀ x ∈ l0, 0 ≤ x ∧ x ≤ 255 := by
    intro x hx
    have h := hw x hx
    simp [Lit.wf, IntKind.min, IntKind.max, IntKind.signed, IntKind.bits] at h
    omega
  unfold spec_newReader.f
  by_cases h : (l0.length : Int) > 2000
  · rw [if_pos h, if_pos (by omega)]
    exact ⟨_, rfl, fun x hx => hb x (List.mem_of_mem_take hx), by rw [List.length_take]; omega⟩
  · rw [if_neg h]
    exact ⟨_, rfl, hb, by omega⟩

theorem one_ok (l : List Int) (hl : ∀ x ∈ l, 0 ≤ x ∧ x ≤ 255) (hn : l.length ≤ 2000) (k : Nat) (p : Int) (xs : List Int) (hp : 0 ≤ p) (hp' : p ≤ 1000000) (hx : 1 ≤ xs.length) :
    ∃ v, spec_reader_one.f (k + 1) l p xs = some (v, p + 1) ∧ v ∈ xs := by
  obtain ⟨v, hv, h0, h1⟩ := pick_ok l hl hn k p (xs.length : Int) hp hp'
  have h2 := h1 (by omega)
  unfold spec_reader_one.f
  rw [hv]
  simp only [Option.bind_some]
  rw [if_pos h0, if_pos h2]
  refine ⟨_, rfl, ?_⟩
  unfold rd
  have h3 : v.toNat < xs.length := by omega
  rw [List.getD_eq_getElem?_getD, List.getElem?_eq_getElem h3]
  exact List.getElem_mem h3

theorem someBytes_end (l : List Int) (hb : ∀ x ∈ l, 0 ≤ x ∧ x ≤ 255) (hn : l.length ≤ 2000) (most : Int) (k : Nat) (o : List Int) (n p : Int) (hp : 0 ≤ p) (hp' : p ≤ 900000) (ho : o.length ≤ 1000) (hx : ∀ x ∈ o, -1 ≤ x ∧ x ≤ 256) :
    ∃ o' p', spec_someBytes.j1 (k + 2) most o n false l p = some (o', p') ∧ o'.length ≤ o.length + 17 ∧ (∀ x ∈ o', -1 ≤ x ∧ x ≤ 256) ∧ p ≤ p' ∧ p' ≤ p + 1 := by
  obtain ⟨v, hv, h0, h1⟩ := pick_ok l hb hn k p 30 hp (by omega)
  simp only [spec_someBytes.j1, Bool.false_eq_true, if_false, hv, Option.bind_some]
  have happ : ∀ y : List Int, (∀ x ∈ y, -1 ≤ x ∧ x ≤ 256) → ∀ x ∈ o ++ y, -1 ≤ x ∧ x ≤ 256 := fun y hy x hxx => by
    rcases List.mem_append.1 hxx with h | h
    · exact hx x h
    · exact hy x h
  by_cases e0 : v = 0
  · rw [if_pos e0, if_pos (by omega)]
    exact ⟨_, _, rfl, by simp, happ _ (by simp), by omega, by omega⟩
  · rw [if_neg e0]
    by_cases e1 : v = 1
    · rw [if_pos e1, if_pos (by omega)]
      exact ⟨_, _, rfl, by simp, happ _ (by simp), by omega, by omega⟩
    · rw [if_neg e1]
      by_cases e2 : v = 2
      · rw [if_pos e2, if_pos (by simp; omega)]
        exact ⟨_, _, rfl, by simp, happ _ (by simp), by omega, by omega⟩
      · rw [if_neg e2]
        exact ⟨_, _, rfl, by omega, hx, by omega, by omega⟩

theorem someBytes_l0 (l : List Int) (hb : ∀ x ∈ l, 0 ≤ x ∧ x ≤ 255) (hn : l.length ≤ 2000) (most : Int) : ∀ (n k : Nat) (o : List Int) (p : Int), 2 * n + 4 ≤ k → n ≤ 16 → 0 ≤ p → p ≤ 800000 - 3 * n → o.length + n ≤ 900 → (∀ x ∈ o, -1 ≤ x ∧ x ≤ 256) →
    ∃ o' p', spec_someBytes.l0 k most o (n : Int) l p = some (o', p') ∧ o'.length ≤ o.length + n + 17 ∧ (∀ x ∈ o', -1 ≤ x ∧ x ≤ 256) ∧ p ≤ p' ∧ p' ≤ p + 3 * n + 1 := by
  intro n
  induction n with
  | zero =>
    intro k o p hk _ hp hp' ho hx
    obtain ⟨k, rfl⟩ : ∃ m, k = m + 1 + 2 := ⟨k - 3, by omega⟩
    simp only [spec_someBytes.l0]
    rw [if_neg (by omega)]
    obtain ⟨o', p', h1, h2, h3, h4, h5⟩ := someBytes_end l hb hn most k o ((0 : Nat) : Int) p hp (by omega) (by omega) hx
    exact ⟨o', p', h1, by omega, h3, h4, by omega⟩
  | succ n ih =>
    intro k o p hk hn16 hp hp' ho hx
    obtain ⟨k, rfl⟩ : ∃ m, k = m + 1 + 2 := ⟨k - 3, by omega⟩
    simp only [spec_someBytes.l0]
    rw [if_pos (by omega)]
    by_cases hm : (o.length : Int) < most
    · rw [decide_eq_true hm]
      obtain ⟨a, ha, ha0, ha1⟩ := pick_ok l hb hn k p 256 hp (by omega)
      obtain ⟨b, hb1, hb0, hb2⟩ := pick_ok l hb hn k (p + 1) 4 (by omega) (by omega)
      obtain ⟨c, hc, hmem⟩ := one_ok l hb hn k (p + 1 + 1) [a, 0, 192, 219, b, 255] (by omega) (by omega) (by simp)
      have hcr : -1 ≤ c ∧ c ≤ 256 := by
        have h1 := ha1 (by omega)
        have h2 := hb2 (by omega)
        simp only [List.mem_cons, List.not_mem_nil, or_false] at hmem
        omega
      simp only [spec_someBytes.j1, if_true, ha, hb1, hc, Option.bind_some]
      rw [if_pos (by omega), (IntWalk.wrap64_in (((n + 1 : Nat) : Int) - 1) (by omega)).trans (show ((n + 1 : Nat) : Int) - 1 = (n : Int) by omega)]
      obtain ⟨o', p', h1, h2, h3, h4, h5⟩ := ih (k + 1) (o ++ [c]) (p + 1 + 1 + 1) (by omega) (by omega) (by omega) (by omega) (by rw [List.length_append, List.length_singleton]; omega) (fun x hxx => by
        rcases List.mem_append.1 hxx with h | h
        · exact hx x h
        · rw [List.mem_singleton.1 h]; exact hcr)
      rw [List.length_append, List.length_singleton] at h2
      exact ⟨o', p', h1, by omega, h3, by omega, by omega⟩
    · rw [decide_eq_false hm]
      obtain ⟨o', p', h1, h2, h3, h4, h5⟩ := someBytes_end l hb hn most k o ((n + 1 : Nat) : Int) p hp (by omega) (by omega) hx
      exact ⟨o', p', h1, by omega, h3, h4, by omega⟩

theorem someBytes_ok (l : List Int) (hb : ∀ x ∈ l, 0 ≤ x ∧ x ≤ 255) (hn : l.length ≤ 2000) (most : Int) (k : Nat) (hk : 40 ≤ k) (p : Int) (hp : 0 ≤ p) (hp' : p ≤ 700000) :
    ∃ o' p', spec_someBytes.f k l p most = some (o', p') ∧ o'.length ≤ 33 ∧ (∀ x ∈ o', -1 ≤ x ∧ x ≤ 256) ∧ p ≤ p' ∧ p' ≤ p + 50 := by
  obtain ⟨k, rfl⟩ : ∃ m, k = m + 1 := ⟨k - 1, by omega⟩
  obtain ⟨v, hv, hmem⟩ := one_ok l hb hn k p [4, 6, 3, 8, 2, 1, 0, 16] hp (by omega) (by simp)
  have hvr : 0 ≤ v ∧ v ≤ 16 := by
    simp only [List.mem_cons, List.not_mem_nil, or_false] at hmem
    omega
  obtain ⟨m, rfl⟩ := Int.eq_ofNat_of_zero_le hvr.1
  unfold spec_someBytes.f
  simp only [hv, Option.bind_some]
  obtain ⟨o', p', h1, h2, h3, h4, h5⟩ := someBytes_l0 l hb hn most m (k + 1) [] (p + 1) (by omega) (by omega) (by omega) (by omega) (by simp; omega) (by simp)
  simp only [List.length_nil] at h2
  exact ⟨o', p', h1, by omega, h3, by omega, by omega⟩

theorem rd_nat (l : List Int) (i : Nat) (h : i < l.length) : rd l (i : Int) = l[i] := by
  unfold rd
  rw [Int.toNat_natCast, List.getD_eq_getElem?_getD, List.getElem?_eq_getElem h]
  rfl

theorem step_nat (i : Nat) (h : i < 4611686018427387904) : wrap64 ((i : Int) + 1) = ((i + 1 : Nat) : Int) := by
  rw [IntWalk.wrap64_in ((i : Int) + 1) (by omega)]
  rfl

theorem equalInts_l0 (a b : List Int) (hab : a.length = b.length) (hl : a.length ≤ 2000000) : ∀ (d k i : Nat), i + d = a.length → d < k → laws_equalInts.l0 k a b (i : Int) = some (decide (a.drop i = b.drop i)) := by
  intro d
  induction d with
  | zero =>
    intro k i hi hk
    obtain ⟨k, rfl⟩ : ∃ m, k = m + 1 := ⟨k - 1, by omega⟩
    simp only [laws_equalInts.l0]
    rw [if_neg (by omega), List.drop_eq_nil_of_le (by omega), List.drop_eq_nil_of_le (by omega)]
    rfl
  | succ d ih =>
    intro k i hi hk
    obtain ⟨k, rfl⟩ : ∃ m, k = m + 1 := ⟨k - 1, by omega⟩
    simp only [laws_equalInts.l0]
    rw [if_pos (by omega), if_pos (by omega), if_pos (by omega), step_nat i (by omega), rd_nat a i (by omega), rd_nat b i (by omega)]
    rw [List.drop_eq_getElem_cons (by omega : i < a.length), List.drop_eq_getElem_cons (by omega : i < b.length)]
    by_cases e : a[i]'(by omega) = b[i]'(by omega)
    · rw [if_pos e, ih k (i + 1) (by omega) (by omega), e]
      exact congrArg some (decide_eq_decide.mpr ⟨fun h => by rw [h], fun h => (List.cons.inj h).2⟩)
    · rw [if_neg e]
      exact congrArg some (decide_eq_false (fun h => e (List.cons.inj h).1)).symm

theorem equalInts_ok (a b : List Int) (hl : a.length ≤ 2000000) (k : Nat) (hk : a.length < k) : laws_equalInts.f k a b = some (decide (a = b)) := by
  unfold laws_equalInts.f
  by_cases h : a.length = b.length
  · rw [if_pos (by omega)]
    exact equalInts_l0 a b h hl a.length k 0 (by omega) hk
  · rw [if_neg (by omega), decide_eq_false (fun e => h (by rw [e]))]

theorem equalInts_self (a : List Int) (hl : a.length ≤ 2000000) (k : Nat) (hk : a.length < k) : laws_equalInts.f k a a = some true := by
  rw [equalInts_ok a a hl k hk, decide_eq_true rfl]

/-- Numbers of one byte. -/
def okB (l : List Int) : Bool := l.all fun x => decide (0 ≤ x ∧ x ≤ 255)

theorem okB_iff (l : List Int) : okB l = true ↔ ∀ x ∈ l, 0 ≤ x ∧ x ≤ 255 := by simp [okB]

theorem inRange_val (x a b : Int) : spec_inRange.f x a b = some (decide (a ≤ x ∧ x ≤ b)) := by
  unfold spec_inRange.f
  by_cases h : a ≤ x
  · rw [if_pos h]; simp [h]
  · rw [if_neg h]; simp [h]

theorem validBytes_l0 (l : List Int) (m : Int) (hl : l.length ≤ 2000000) : ∀ (d k i : Nat), i + d = l.length → d < k → spec_validBytes.l0 k l m (i : Int) = some (okB (l.drop i) && decide ((l.length : Int) ≤ m)) := by
  intro d
  induction d with
  | zero =>
    intro k i hi hk
    obtain ⟨k, rfl⟩ : ∃ m, k = m + 1 := ⟨k - 1, by omega⟩
    simp only [spec_validBytes.l0]
    rw [if_neg (by omega), List.drop_eq_nil_of_le (by omega)]
    simp [okB]
  | succ d ih =>
    intro k i hi hk
    obtain ⟨k, rfl⟩ : ∃ m, k = m + 1 := ⟨k - 1, by omega⟩
    simp only [spec_validBytes.l0]
    rw [if_pos (by omega), if_pos (by omega), step_nat i (by omega), rd_nat l i (by omega), inRange_val]
    rw [List.drop_eq_getElem_cons (by omega : i < l.length)]
    simp only [Option.bind_some]
    by_cases e : 0 ≤ l[i]'(by omega) ∧ l[i]'(by omega) ≤ 255
    · rw [if_pos (decide_eq_true e), ih k (i + 1) (by omega) (by omega)]
      have h : okB (l[i]'(by omega) :: l.drop (i + 1)) = okB (l.drop (i + 1)) := by
        unfold okB
        rw [List.all_cons, decide_eq_true e, Bool.true_and]
      rw [h]
    · rw [if_neg (by simpa using e)]
      have h : okB (l[i]'(by omega) :: l.drop (i + 1)) = false := by
        unfold okB
        rw [List.all_cons, decide_eq_false e, Bool.false_and]
      rw [h, Bool.false_and]

theorem validBytes_ok (l : List Int) (m : Int) (hl : l.length ≤ 2000000) (k : Nat) (hk : l.length < k) : spec_validBytes.f k l m = some (okB l && decide ((l.length : Int) ≤ m)) := by
  unfold spec_validBytes.f
  exact validBytes_l0 l m hl l.length k 0 (by omega) hk

theorem bytesAlone_val (l : List Int) : impl_bytesAlone.f l = some (okB l) := by
  unfold impl_bytesAlone.f okB
  congr 1
  induction l with
  | nil => rfl
  | cons x l ih =>
    rw [List.any_cons, List.all_cons, ← ih]
    have h : (decide (x < 0) || decide (x > 255)) = !(decide (0 ≤ x ∧ x ≤ 255)) := by
      by_cases h1 : x < 0
      · simp [h1]
      · by_cases h2 : x > 255
        · simp [h2]
        · simp [h1, h2]; omega
    rw [h, Bool.not_or, Bool.not_not]

theorem bytesOk_val (l : List Int) : impl_bytesOk.f l = some (okB l && decide (l.length ≤ 16)) := by
  unfold impl_bytesOk.f
  rw [bytesAlone_val]
  simp only [Option.bind_some]
  by_cases h : l.length ≤ 16
  · rw [if_pos (by omega)]; simp [h]
  · rw [if_neg (by omega)]; simp [h]

/-- Groups cut at each nought, one under way. -/
def ptz : List Int → List Int → List Int
  | [], _ => []
  | x :: t, g => if x = 0 then ((g.length : Int) + 1) :: (g ++ ptz t []) else ptz t (g ++ [x])
/-- Pointed bytes. -/
def pb (t : List Int) : List Int := ptz (t ++ [0]) []

theorem ptz_skip : ∀ (g s h : List Int), (∀ x ∈ g, x ≠ 0) → ptz (g ++ s) h = ptz s (h ++ g)
  | [], s, h, _ => by simp
  | x :: g, s, h, hx => by
    have h1 := hx x (List.mem_cons_self ..)
    simp only [List.cons_append, ptz]
    rw [if_neg h1, ptz_skip g s (h ++ [x]) (fun y hy => hx y (List.mem_cons_of_mem _ hy))]
    simp

theorem pb_A (g : List Int) (hg : ∀ x ∈ g, x ≠ 0) : pb g = ((g.length : Int) + 1) :: g := by
  unfold pb
  rw [ptz_skip g [0] [] hg]
  simp [ptz]

theorem pb_B (g t : List Int) (hg : ∀ x ∈ g, x ≠ 0) : pb (g ++ 0 :: t) = ((g.length : Int) + 1) :: (g ++ pb t) := by
  unfold pb
  rw [List.append_assoc, ptz_skip g (0 :: t ++ [0]) [] hg]
  simp [ptz]

theorem split0 : ∀ t : List Int, ∃ g : List Int, (∀ x ∈ g, x ≠ 0) ∧ (t = g ∨ ∃ t', t = g ++ 0 :: t')
  | [] => ⟨[], by simp, .inl rfl⟩
  | x :: t => by
    by_cases h : x = 0
    · exact ⟨[], by simp, .inr ⟨t, by simp [h]⟩⟩
    · obtain ⟨g, h1, h2⟩ := split0 t
      refine ⟨x :: g, fun y hy => ?_, ?_⟩
      · rcases List.mem_cons.1 hy with e | e
        · rw [e]; exact h
        · exact h1 y e
      · rcases h2 with h2 | ⟨t', h2⟩
        · exact .inl (by rw [h2])
        · exact .inr ⟨t', by rw [h2]; rfl⟩

theorem ptz_length : ∀ (t g : List Int), (ptz (t ++ [0]) g).length = t.length + g.length + 1
  | [], g => by simp [ptz]
  | x :: t, g => by
    simp only [List.cons_append, ptz]
    split
    · rw [List.length_cons, List.length_append, ptz_length t []]
      simp only [List.length_cons, List.length_nil]
      omega
    · rw [ptz_length t (g ++ [x])]
      simp only [List.length_cons, List.length_append, List.length_nil]
      omega

theorem pb_length (t : List Int) : (pb t).length = t.length + 1 := by
  unfold pb
  rw [ptz_length t []]
  simp

theorem ptz_ok : ∀ (t g : List Int), (∀ x ∈ t, 0 ≤ x ∧ x ≤ 255) → (∀ x ∈ g, 1 ≤ x ∧ x ≤ 255) → t.length + g.length ≤ 16 → ∀ y ∈ ptz (t ++ [0]) g, 1 ≤ y ∧ y ≤ 255
  | [], g, ht, hg, hl => by
    intro y hy
    simp only [List.nil_append, ptz, if_true, List.append_nil, List.mem_cons] at hy
    rcases hy with e | e
    · simp at hl; omega
    · exact hg y e
  | x :: t, g, ht, hg, hl => by
    have hx := ht x (List.mem_cons_self ..)
    have ht' : ∀ z ∈ t, 0 ≤ z ∧ z ≤ 255 := fun z hz => ht z (List.mem_cons_of_mem _ hz)
    simp only [List.length_cons] at hl
    intro y hy
    simp only [List.cons_append, ptz] at hy
    by_cases h : x = 0
    · rw [if_pos h] at hy
      rcases List.mem_cons.1 hy with e | e
      · omega
      · rcases List.mem_append.1 e with e | e
        · exact hg y e
        · exact ptz_ok t [] ht' (by simp) (by simp; omega) y e
    · rw [if_neg h] at hy
      refine ptz_ok t (g ++ [x]) ht' (fun z hz => ?_) (by simp; omega) y hy
      rcases List.mem_append.1 hz with e | e
      · exact hg z e
      · rw [List.mem_singleton.1 e]; omega

theorem ptz_mem : ∀ (t g : List Int), (∀ x ∈ t, x = 0 ∨ x ∈ ptz (t ++ [0]) g) ∧ (∀ x ∈ g, x ∈ ptz (t ++ [0]) g)
  | [], g => by
    refine ⟨by simp, fun x hx => ?_⟩
    simp only [List.nil_append, ptz, if_true, List.append_nil]
    exact List.mem_cons_of_mem _ hx
  | y :: t, g => by
    simp only [List.cons_append, ptz]
    by_cases h : y = 0
    · rw [if_pos h]
      obtain ⟨h1, _⟩ := ptz_mem t []
      refine ⟨fun x hx => ?_, fun x hx => List.mem_cons_of_mem _ (List.mem_append_left _ hx)⟩
      rcases List.mem_cons.1 hx with e | e
      · exact .inl (by omega)
      · rcases h1 x e with e2 | e2
        · exact .inl e2
        · exact .inr (List.mem_cons_of_mem _ (List.mem_append_right _ e2))
    · rw [if_neg h]
      obtain ⟨h1, h2⟩ := ptz_mem t (g ++ [y])
      refine ⟨fun x hx => ?_, fun x hx => h2 x (List.mem_append_left _ hx)⟩
      rcases List.mem_cons.1 hx with e | e
      · exact .inr (h2 x (by simp [e]))
      · exact h1 x e

theorem okB_pb (t : List Int) (h : okB t = true) (hl : t.length ≤ 16) : okB (pb t) = true := by
  rw [okB_iff] at h ⊢
  intro y hy
  have := ptz_ok t [] h (by simp) (by simpa using hl) y hy
  omega

theorem okB_of_pb (t : List Int) (h : okB (pb t) = true) : okB t = true := by
  rw [okB_iff] at h ⊢
  intro x hx
  rcases (ptz_mem t []).1 x hx with e | e
  · omega
  · exact h x e

theorem implPb_l0 (l : List Int) (hl : l.length ≤ 17) : ∀ (d k i : Nat) (o g : List Int), i + d = l.length → d < k → o.length ≤ 20 * i → g.length ≤ i →
    impl_PointBytes.l0 k o g l (l.length : Int) (i : Int) = some (o ++ ptz (l.drop i) g) := by
  intro d
  induction d with
  | zero =>
    intro k i o g hi hk ho hg
    obtain ⟨k, rfl⟩ : ∃ m, k = m + 1 := ⟨k - 1, by omega⟩
    rw [impl_PointBytes.l0, if_neg (by omega), List.drop_eq_nil_of_le (by omega)]
    simp [ptz]
  | succ d ih =>
    intro k i o g hi hk ho hg
    obtain ⟨k, rfl⟩ : ∃ m, k = m + 1 := ⟨k - 1, by omega⟩
    rw [impl_PointBytes.l0, if_pos (by omega), if_pos (by omega), if_pos (by omega), step_nat i (by omega), rd_nat l i (by omega), List.drop_eq_getElem_cons (by omega : i < l.length)]
    generalize l[i]'(by omega) = x
    by_cases h : x = 0
    · rw [if_pos h, if_pos (by omega), Option.bind_some, IntWalk.wrap64_in ((g.length : Int) + 1) (by omega), if_pos (by rw [List.length_append, List.length_singleton]; omega)]
      rw [ih k (i + 1) _ _ (by omega) (by omega) (by simp only [List.length_append, List.length_cons, List.length_nil]; omega) (by simp)]
      simp only [ptz, if_pos h, List.append_assoc, List.singleton_append, List.cons_append, List.nil_append]
    · rw [if_neg h, if_pos (by omega), ih k (i + 1) _ _ (by omega) (by omega) (by omega) (by simp only [List.length_append, List.length_cons, List.length_nil]; omega)]
      simp only [ptz, if_neg h]

/-- What both return. -/
def pbB (l : List Int) : List Int := if okB l = true ∧ l.length ≤ 16 then pb l else []

theorem pbB_length (l : List Int) : (pbB l).length ≤ 17 := by
  unfold pbB
  split
  · next h => rw [pb_length]; omega
  · simp

theorem implPb_ok (l : List Int) (k : Nat) (hk : 20 ≤ k) : impl_PointBytes.f k l = some (pbB l) := by
  unfold impl_PointBytes.f pbB
  rw [bytesOk_val]
  simp only [Option.bind_some, Bool.and_eq_true, decide_eq_true_eq]
  by_cases h : okB l = true ∧ l.length ≤ 16
  · rw [if_pos h, if_pos h]
    unfold slices_Clone_int_int.f
    rw [if_pos (by omega), Option.bind_some, if_pos (by omega)]
    have hlen : (l ++ [0]).length ≤ 17 := by rw [List.length_append, List.length_singleton]; omega
    have := implPb_l0 (l ++ [0]) hlen (l ++ [0]).length k 0 [] [] (by omega) (by omega) (by simp) (by simp)
    rw [show ((0 : Nat) : Int) = 0 from rfl, List.drop_zero, List.nil_append] at this
    exact this
  · rw [if_neg h, if_neg h]

theorem specPb_l0 (l : List Int) (hl : l.length ≤ 16) : ∀ (d k i : Nat) (o g : List Int), i + d = l.length → d < k → o.length ≤ 20 * i → g.length ≤ i →
    spec_PointBytes.l0 k l o g (i : Int) = some (o ++ ptz (l.drop i ++ [0]) g) := by
  intro d
  induction d with
  | zero =>
    intro k i o g hi hk ho hg
    obtain ⟨k, rfl⟩ : ∃ m, k = m + 1 := ⟨k - 1, by omega⟩
    rw [spec_PointBytes.l0, if_neg (by omega), if_pos (by omega), Option.bind_some, IntWalk.wrap64_in ((g.length : Int) + 1) (by omega), if_pos (by rw [List.length_append, List.length_singleton]; omega), List.drop_eq_nil_of_le (by omega)]
    simp [ptz]
  | succ d ih =>
    intro k i o g hi hk ho hg
    obtain ⟨k, rfl⟩ : ∃ m, k = m + 1 := ⟨k - 1, by omega⟩
    rw [spec_PointBytes.l0, if_pos (by omega), if_pos (by omega), step_nat i (by omega), rd_nat l i (by omega), List.drop_eq_getElem_cons (by omega : i < l.length)]
    generalize l[i]'(by omega) = x
    by_cases h : x = 0
    · rw [if_pos h, if_pos (by omega), Option.bind_some, IntWalk.wrap64_in ((g.length : Int) + 1) (by omega), if_pos (by rw [List.length_append, List.length_singleton]; omega)]
      rw [ih k (i + 1) _ _ (by omega) (by omega) (by simp only [List.length_append, List.length_cons, List.length_nil]; omega) (by simp)]
      simp only [ptz, if_pos h, List.append_assoc, List.singleton_append, List.cons_append, List.nil_append]
    · rw [if_neg h, if_pos (by omega), ih k (i + 1) _ _ (by omega) (by omega) (by omega) (by simp only [List.length_append, List.length_cons, List.length_nil]; omega)]
      simp only [ptz, if_neg h, List.cons_append]

theorem specPb_ok (l : List Int) (hl : l.length ≤ 2000000) (k : Nat) (hk : l.length < k) : spec_PointBytes.f k l = some (pbB l) := by
  unfold spec_PointBytes.f pbB
  rw [validBytes_ok l 16 hl k hk]
  simp only [Option.bind_some, Bool.and_eq_true, decide_eq_true_eq]
  by_cases h : okB l = true ∧ l.length ≤ 16
  · rw [if_pos ⟨h.1, by omega⟩, if_pos h]
    have := specPb_l0 l h.2 l.length k 0 [] [] (by omega) hk (by simp) (by simp)
    rw [show ((0 : Nat) : Int) = 0 from rfl, List.drop_zero, List.nil_append] at this
    exact this
  · rw [if_neg (fun e => h ⟨e.1, by omega⟩), if_neg h]

theorem sliceEqual_l0 (a b : List Int) (hab : a.length = b.length) (hl : a.length ≤ 2000000) : ∀ (d k i : Nat), i + d = a.length → d < k → slices_Equal_int_int.l0 k a b (a.length : Int) (i : Int) = some (decide (a.drop i = b.drop i)) := by
  intro d
  induction d with
  | zero =>
    intro k i hi hk
    obtain ⟨k, rfl⟩ : ∃ m, k = m + 1 := ⟨k - 1, by omega⟩
    simp only [slices_Equal_int_int.l0]
    rw [if_neg (by omega), List.drop_eq_nil_of_le (by omega), List.drop_eq_nil_of_le (by omega)]
    rfl
  | succ d ih =>
    intro k i hi hk
    obtain ⟨k, rfl⟩ : ∃ m, k = m + 1 := ⟨k - 1, by omega⟩
    simp only [slices_Equal_int_int.l0]
    rw [if_pos (by omega), if_pos (by omega), if_pos (by omega), if_pos (by omega), step_nat i (by omega), rd_nat a i (by omega), rd_nat b i (by omega)]
    rw [List.drop_eq_getElem_cons (by omega : i < a.length), List.drop_eq_getElem_cons (by omega : i < b.length)]
    by_cases e : a[i]'(by omega) = b[i]'(by omega)
    · rw [if_pos e, ih k (i + 1) (by omega) (by omega), e]
      exact congrArg some (decide_eq_decide.mpr ⟨fun h => by rw [h], fun h => (List.cons.inj h).2⟩)
    · rw [if_neg e]
      exact congrArg some (decide_eq_false (fun h => e (List.cons.inj h).1)).symm

theorem sliceEqual_ok (a b : List Int) (hl : a.length ≤ 2000000) (k : Nat) (hk : a.length < k) : slices_Equal_int_int.f k a b = some (decide (a = b)) := by
  unfold slices_Equal_int_int.f
  by_cases h : a.length = b.length
  · rw [if_pos (by omega)]
    exact sliceEqual_l0 a b h hl a.length k 0 (by omega) hk
  · rw [if_neg (by omega), decide_eq_false (fun e => h (by rw [e]))]

/-- What the program hands back, once it has read its list as o. -/
def finP (l o : List Int) : List Int × Bool := if okB o = true ∧ o.length ≤ 16 ∧ pb o = l then (o, true) else ([], false)

theorem unP_fin (l o : List Int) (k : Nat) (hk : 40 ≤ k) (i : Int) : impl_UnpointBytes.j1 (k + 1) l o i false = some (finP l o) := by
  rw [impl_UnpointBytes.j1]
  simp only [Bool.false_eq_true, if_false, bytesOk_val, Option.bind_some, Bool.and_eq_true, decide_eq_true_eq]
  unfold finP
  by_cases h : okB o = true ∧ o.length ≤ 16
  · have he := pbB_length o
    rw [if_pos h, implPb_ok o k (by omega)]
    simp only [Option.bind_some]
    rw [sliceEqual_ok (pbB o) l (by omega) k (by omega)]
    simp only [Option.bind_some, decide_eq_true_eq]
    have hB : pbB o = pb o := by unfold pbB; rw [if_pos h]
    rw [hB]
    by_cases e : pb o = l
    · rw [if_pos e, if_pos ⟨h.1, h.2, e⟩]
    · rw [if_neg e, if_neg (fun c => e c.2.2)]
  · rw [if_neg h, if_neg (fun c => h ⟨c.1, c.2.1⟩)]

/-- The nought between two groups. -/
def btw (i : Nat) : List Int := if i = 0 then [] else [0]

theorem btw_length (i : Nat) : (btw i).length ≤ 1 := by
  unfold btw
  split <;> simp

theorem seg_eq (l : List Int) (i n : Nat) : (l.take (i + n)).drop (i + 1) = (l.drop (i + 1)).take (n - 1) := by
  by_cases h : n = 0
  · subst h
    simp
    omega
  · rw [List.drop_take, show i + n - (i + 1) = n - 1 by omega]

theorem unP_j2 (l o : List Int) (i n k : Nat) (hn : 1 ≤ n) (hin : i + n ≤ l.length) (hl : l.length ≤ 2000000) (hn17 : n ≤ 17) (ho : o.length ≤ 16) :
    impl_UnpointBytes.j2 (k + 1) l o (i : Int) (n : Int) false = impl_UnpointBytes.l0 k l (o ++ btw i ++ (l.drop (i + 1)).take (n - 1)) ((i + n : Nat) : Int) := by
  have hw : wrap64 ((i : Int) + (n : Int)) = ((i + n : Nat) : Int) := (IntWalk.wrap64_in ((i : Int) + (n : Int)) (by omega)).trans (by omega)
  have hlen : ((l.drop (i + 1)).take (n - 1)).length ≤ 17 := by rw [List.length_take]; omega
  rw [impl_UnpointBytes.j2]
  simp only [Bool.false_eq_true, if_false]
  rw [hw, step_nat i (by omega), Int.toNat_natCast, Int.toNat_natCast, seg_eq l i n]
  generalize hseg : (l.drop (i + 1)).take (n - 1) = seg at hlen ⊢
  by_cases h0 : i = 0
  · rw [if_neg (by omega), if_pos (by omega), if_pos (by omega), if_pos (by omega), if_pos (by omega)]
    rw [show btw i = [] by unfold btw; rw [if_pos h0], List.append_nil]
  · rw [if_pos (by omega), if_pos (by omega), Option.bind_some, if_pos (by omega), if_pos (by omega), if_pos (by omega), if_pos (by rw [List.length_append, List.length_singleton]; omega)]
    rw [show btw i = [0] by unfold btw; rw [if_neg h0]]

theorem unP_l0 (l : List Int) (hl : l.length ≤ 2000000) : ∀ (d k i : Nat) (o : List Int), i + d = l.length → 3 * d + 60 ≤ k → o.length ≤ 40 →
    ∃ r, impl_UnpointBytes.l0 k l o (i : Int) = some r ∧ (r = ([], false) ∨ ∃ o', r = finP l o') ∧ (∀ t, l.drop i = pb t → o.length + (btw i).length + t.length ≤ 16 → r = finP l (o ++ btw i ++ t)) := by
  intro d
  induction d using Nat.strongRecOn with
  | ind d ih =>
    intro k i o hi hk ho
    obtain ⟨k, rfl⟩ : ∃ m, k = m + 3 := ⟨k - 3, by omega⟩
    rw [impl_UnpointBytes.l0]
    by_cases hd : d = 0
    · rw [if_neg (by omega), unP_fin l o (k + 1) (by omega)]
      refine ⟨_, rfl, .inr ⟨o, rfl⟩, fun t ht _ => ?_⟩
      rw [List.drop_eq_nil_of_le (by omega)] at ht
      have := congrArg List.length ht
      rw [pb_length] at this
      simp at this
    · rw [if_pos (by omega)]
      by_cases ho16 : o.length ≤ 16
      · rw [decide_eq_true (by omega : (o.length : Int) ≤ 16), impl_UnpointBytes.j1]
        simp only [if_true]
        rw [if_pos (by omega), if_pos (by omega), rd_nat l i (by omega)]
        have hdrop : l.drop i = l[i]'(by omega) :: l.drop (i + 1) := List.drop_eq_getElem_cons (by omega : i < l.length)
        generalize l[i]'(by omega) = x at hdrop ⊢
        have hshape : ∀ t, l.drop i = pb t → t.length ≤ 16 → ∃ g : List Int, (∀ y ∈ g, y ≠ 0) ∧ x = (g.length : Int) + 1 ∧ g.length ≤ 16 ∧ ((t = g ∧ l.drop (i + 1) = g) ∨ ∃ t', t = g ++ 0 :: t' ∧ l.drop (i + 1) = g ++ pb t') := by
          intro t ht ht16
          obtain ⟨g, hg, h | ⟨t', h⟩⟩ := split0 t
          · subst h
            rw [hdrop, pb_A t hg] at ht
            obtain ⟨e1, e2⟩ := List.cons.inj ht
            exact ⟨t, hg, e1, ht16, .inl ⟨rfl, e2⟩⟩
          · subst h
            rw [hdrop, pb_B g t' hg] at ht
            obtain ⟨e1, e2⟩ := List.cons.inj ht
            rw [List.length_append] at ht16
            exact ⟨g, hg, e1, by omega, .inr ⟨t', rfl, e2⟩⟩
        have hj2t : ∀ y : Int, impl_UnpointBytes.j2 (k + 1) l o (i : Int) y true = some ([], false) := fun y => by rw [impl_UnpointBytes.j2]; simp
        by_cases h1 : x < 1
        · rw [if_pos h1, hj2t]
          refine ⟨_, rfl, .inl rfl, fun t ht hlt => ?_⟩
          obtain ⟨g, _, e, _, _⟩ := hshape t ht (by omega)
          omega
        · rw [if_neg h1]
          by_cases h2 : x > 17
          · rw [if_pos h2, hj2t]
            refine ⟨_, rfl, .inl rfl, fun t ht hlt => ?_⟩
            obtain ⟨g, _, e, _, _⟩ := hshape t ht (by omega)
            omega
          · rw [if_neg h2]
            obtain ⟨n, rfl⟩ := Int.eq_ofNat_of_zero_le (by omega : 0 ≤ x)
            rw [(IntWalk.wrap64_in ((i : Int) + (n : Int)) (by omega)).trans (show (i : Int) + (n : Int) = ((i + n : Nat) : Int) by omega)]
            by_cases h3 : i + n ≤ l.length
            · rw [decide_eq_false (by omega), unP_j2 l o i n k (by omega) h3 hl (by omega) ho16]
              have hbl := btw_length i
              have hsl : ((l.drop (i + 1)).take (n - 1)).length = n - 1 := by rw [List.length_take, List.length_drop]; omega
              obtain ⟨r, hr, h4, h5⟩ := ih (d - n) (by omega) k (i + n) (o ++ btw i ++ (l.drop (i + 1)).take (n - 1)) (by omega) (by omega) (by simp only [List.length_append, hsl]; omega)
              refine ⟨r, hr, h4, fun t ht hlt => ?_⟩
              obtain ⟨g, hg, e, hg16, h6⟩ := hshape t ht (by omega)
              have hng : n - 1 = g.length := by omega
              rcases h6 with ⟨e1, e2⟩ | ⟨t', e1, e2⟩
              · have hend : i + n = l.length := by
                  have := congrArg List.length e2
                  rw [List.length_drop] at this
                  omega
                rw [hend] at hr
                obtain ⟨k', rfl⟩ : ∃ m, k = m + 2 := ⟨k - 2, by omega⟩
                rw [impl_UnpointBytes.l0, if_neg (by omega), unP_fin l _ k' (by omega)] at hr
                rw [← Option.some.inj hr, e2, hng, List.take_length, e1]
              · have hdr : l.drop (i + n) = pb t' := by
                  rw [show i + n = i + 1 + (n - 1) by omega, ← List.drop_drop, e2, hng, List.drop_left]
                have hb1 : btw (i + n) = [0] := by unfold btw; rw [if_neg (by omega)]
                have h7 := h5 t' hdr (by
                  rw [hb1]
                  rw [e1] at hlt
                  simp only [List.length_append, List.length_cons, List.length_nil, hsl] at hlt ⊢
                  omega)
                rw [h7, e2, hng, List.take_left, hb1, e1]
                simp
            · rw [decide_eq_true (by omega), hj2t]
              refine ⟨_, rfl, .inl rfl, fun t ht hlt => ?_⟩
              obtain ⟨g, _, e, _, h6⟩ := hshape t ht (by omega)
              have hl1 : (l.drop (i + 1)).length = l.length - (i + 1) := List.length_drop ..
              rcases h6 with ⟨_, e2⟩ | ⟨t', _, e2⟩
              · rw [e2] at hl1
                omega
              · rw [e2, List.length_append] at hl1
                omega
      · rw [decide_eq_false (by omega : ¬ (o.length : Int) ≤ 16), unP_fin l o (k + 1) (by omega)]
        exact ⟨_, rfl, .inr ⟨o, rfl⟩, fun t _ h => by omega⟩

theorem unP_ok (l : List Int) (hl : l.length ≤ 2000000) (k : Nat) (hk : 3 * l.length + 60 ≤ k) :
    ∃ r, impl_UnpointBytes.f k l = some r ∧ (r = ([], false) ∨ ∃ o', r = finP l o') ∧ (∀ t, l = pb t → t.length ≤ 16 → r = finP l t) := by
  obtain ⟨r, h1, h2, h3⟩ := unP_l0 l hl l.length k 0 [] (by omega) hk (by simp)
  exact ⟨r, h1, h2, fun t ht h => by simpa [btw] using h3 t (by simpa using ht) (by simpa [btw] using h)⟩


theorem isIn_l0 (l : List Int) (x : Int) (hl : l.length ≤ 2000) (hx : ∀ y ∈ l, y ≠ x) : ∀ (d k i : Nat), i + d = l.length → d < k → laws_isIn.l0 k l x (i : Int) = some false := by
  intro d
  induction d with
  | zero =>
    intro k i hi hk
    obtain ⟨k, rfl⟩ : ∃ m, k = m + 1 := ⟨k - 1, by omega⟩
    rw [laws_isIn.l0, if_neg (by omega)]
  | succ d ih =>
    intro k i hi hk
    obtain ⟨k, rfl⟩ : ∃ m, k = m + 1 := ⟨k - 1, by omega⟩
    have h := hx (l[i]'(by omega)) (List.getElem_mem _)
    rw [laws_isIn.l0, if_pos (by omega), if_pos (by omega), step_nat i (by omega), rd_nat l i (by omega), if_neg h]
    exact ih k (i + 1) (by omega) (by omega)

theorem FnPointBytes : laws_FnPointBytes.Pure := by
  intro l0 _ _ hw
  by_cases hc : (l0.length : Int) > 1048576
  · exact ⟨0, by unfold laws_FnPointBytes.f; rw [if_pos hc]⟩
  · refine ⟨600, ?_⟩
    obtain ⟨b, hr, hb, hn⟩ := reader_ok l0 hw
    obtain ⟨l, p', hs, hlen, _, _, _⟩ := someBytes_ok b hb hn 16 600 (by omega) 0 (by omega) (by omega)
    have he := pbB_length l
    unfold laws_FnPointBytes.f spec_DrawPointBytes.f
    rw [if_neg hc]
    simp (disch := omega) only [hr, Option.bind_some, hs, implPb_ok, specPb_ok, if_true, equalInts_self]
    rw [show (600 : Nat) = 599 + 1 from rfl]
    by_cases h : okB l = true ∧ l.length ≤ 16
    · have hv : pbB l = pb l := by unfold pbB; rw [if_pos h]
      have hpl := pb_length l
      have h0 : (((pbB l).length : Int) == 0) = false := beq_eq_false_iff_ne.mpr (by rw [hv]; omega)
      rw [h0, laws_FnPointBytes.j0, hv]
      simp only [Bool.false_eq_true, if_false]
      obtain ⟨r, e1, _, e2⟩ := unP_ok (pb l) (by omega) 599 (by omega)
      rw [e2 l rfl h.2] at e1
      have hf : finP (pb l) l = (l, true) := by unfold finP; rw [if_pos ⟨h.1, h.2, rfl⟩]
      have hin : laws_isIn.f 599 (pb l) 0 = some false := by
        unfold laws_isIn.f
        refine isIn_l0 (pb l) 0 (by omega) (fun y hy => ?_) (pb l).length 599 0 (by omega) (by omega)
        have := ptz_ok l [] ((okB_iff l).1 h.1) (by simp) (by simpa using h.2) y hy
        omega
      rw [e1, hf, Option.bind_some]
      simp only [if_true]
      rw [equalInts_self l (by omega) 599 (by omega), Option.bind_some, if_pos rfl, IntWalk.wrap64_in ((l.length : Int) + 1) (by omega), if_pos (by omega), hin]
      rfl
    · have hv : pbB l = [] := by unfold pbB; rw [if_neg h]
      have h0 : (((pbB l).length : Int) == 0) = true := by rw [hv]; rfl
      rw [h0, laws_FnPointBytes.j0]
      simp (disch := omega) only [if_true, specPb_ok, Option.bind_some, equalInts_self]

end Go.Proofs.Ytfklnhjipahonaa.Pure
