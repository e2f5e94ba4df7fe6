/- Groups are read back: FnGroupsOf returns true for every list of bytes. Conditions: none. -/
import Derived.Test.YtnolmimfpnngjaaHFnGroupsOfx2
namespace Go.Proofs.Ytnolmimfpnngjaa.Pure
open Go.RowKit Go.Proofs.Ytnolmimfpnngjaa.HFnGroupsOf Go.Proofs.YtnolmimfpnngjaaW.PrintWords Go.Proofs.YtnolmimfpnngjaaW.PrintLast
open Go
set_option linter.unusedVariables false
set_option linter.unusedSimpArgs false

theorem xor64_range (a b : Int) (ha : 0 ≤ a) (ha' : a < 1073741824) (hb : 0 ≤ b) (hb' : b < 1073741824) :
    0 ≤ Go.bits .xor .i64 a b ∧ Go.bits .xor .i64 a b < 1073741824 := by
  obtain ⟨m, rfl⟩ := Int.eq_ofNat_of_zero_le ha
  obtain ⟨n, rfl⟩ := Int.eq_ofNat_of_zero_le hb
  have hm : m < 2 ^ 30 := by omega
  have hn : n < 2 ^ 30 := by omega
  have hx : m ^^^ n < 2 ^ 30 := Nat.xor_lt_two_pow hm hn
  have hm' : m % 2 ^ IntKind.i64.bits = m := Nat.mod_eq_of_lt (Nat.lt_of_lt_of_le hm (by decide))
  have hn' : n % 2 ^ IntKind.i64.bits = n := Nat.mod_eq_of_lt (Nat.lt_of_lt_of_le hn (by decide))
  simp only [Go.bits, BitVec.ofInt_natCast, BitVec.toNat_xor, BitVec.toNat_ofNat, hm', hn']
  rw [IntWalk.i64_in ((m ^^^ n : Nat) : Int) (by omega)]
  omega

theorem rd_range (l : List Int) (hl : ∀ x ∈ l, 0 ≤ x ∧ x ≤ 255) (i : Int) : 0 ≤ rd l i ∧ rd l i ≤ 255 := by
  unfold rd
  rw [List.getD_eq_getElem?_getD]
  cases h : l[i.toNat]? with
  | none => simp
  | some v => exact hl v (List.mem_of_getElem? h)

theorem tmod_range (a n : Int) (ha : 0 ≤ a) (hn : 1 ≤ n) : 0 ≤ Int.tmod a n ∧ Int.tmod a n < n :=
  ⟨Int.tmod_nonneg n ha, Int.tmod_lt_of_pos a (by omega)⟩

theorem pick_ok (l : List Int) (hl : ∀ x ∈ l, 0 ≤ x ∧ x ≤ 255) (hn : l.length ≤ 2000) (k : Nat) (p n : Int) (hp : 0 ≤ p) (hp' : p ≤ 1000000) :
    ∃ v, spec_reader_pick.f (k + 1) l p n = some (v, p + 1) ∧ 0 ≤ v ∧ (1 ≤ n → v < n) := by
  have hw : wrap64 (p + 1) = p + 1 := IntWalk.wrap64_in _ (by omega)
  unfold spec_reader_pick.f
  rw [hw]
  by_cases h1 : n < 1
  · rw [if_pos h1]
    exact ⟨0, by simp [spec_reader_pick.j0], by omega, fun h => by omega⟩
  · rw [if_neg h1]
    by_cases h2 : l.length = 0
    · exact ⟨0, by simp [spec_reader_pick.j0, h2], by omega, fun h => by omega⟩
    · have hb : ((l.length : Int) == 0) = false := beq_eq_false_iff_ne.mpr (by omega)
      have hw1 : wrap64 (p + 1 - 1) = p := (IntWalk.wrap64_in (p + 1 - 1) (by omega)).trans (by omega)
      have hn0 : n ≠ 0 := by omega
      have hl0 : (l.length : Int) ≠ 0 := by omega
      simp only [spec_reader_pick.j0, hb, hw1, Bool.false_eq_true, if_false, hn0, hl0]
      by_cases h3 : p < (l.length : Int)
      · rw [if_pos h3, if_pos hp]
        have hr := rd_range l hl p
        rw [IntWalk.wrap64_in (rd l p) (by omega)]
        have ht := tmod_range (rd l p) n hr.1 (by omega)
        exact ⟨_, rfl, ht.1, fun _ => ht.2⟩
      · rw [if_neg h3]
        have hm1 := tmod_range p (l.length : Int) hp (by omega)
        rw [if_pos hm1.1, if_pos hm1.2]
        have hw7 : wrap64 (p * 7) = p * 7 := IntWalk.wrap64_in _ (by omega)
        have hw73 : wrap64 (p * 7 + 3) = p * 7 + 3 := IntWalk.wrap64_in _ (by omega)
        rw [hw7, hw73]
        have hm2 := tmod_range (p * 7 + 3) (l.length : Int) (by omega) (by omega)
        rw [if_pos hm2.1, if_pos hm2.2]
        have hr1 := rd_range l hl (Int.tmod p (l.length : Int))
        have hr2 := rd_range l hl (Int.tmod (p * 7 + 3) (l.length : Int))
        generalize rd l (Int.tmod p (l.length : Int)) = r1 at hr1 ⊢
        generalize rd l (Int.tmod (p * 7 + 3) (l.length : Int)) = r2 at hr2 ⊢
        have hq : 0 ≤ Int.tdiv p (l.length : Int) ∧ Int.tdiv p (l.length : Int) ≤ p := by
          rw [Int.tdiv_eq_ediv_of_nonneg hp]
          exact ⟨Int.ediv_nonneg hp (by omega), Int.ediv_le_self _ hp⟩
        generalize Int.tdiv p (l.length : Int) = q at hq ⊢
        simp (disch := omega) only [IntWalk.wrap64_in]
        have hX : 0 ≤ r1 * 131 + r2 * 1117 + p * 29 + q * 53 ∧ r1 * 131 + r2 * 1117 + p * 29 + q * 53 < 1073741824 := by omega
        generalize r1 * 131 + r2 * 1117 + p * 29 + q * 53 = X at hX ⊢
        have hd : 0 ≤ Int.tdiv X 64 ∧ Int.tdiv X 64 < 1073741824 := by
          rw [Int.tdiv_eq_ediv_of_nonneg hX.1]; omega
        rw [IntWalk.wrap64_in (Int.tdiv X 64) (by omega)]
        have hx := xor64_range X (Int.tdiv X 64) hX.1 hX.2 hd.1 hd.2
        have ht := tmod_range (Go.bits .xor .i64 X (Int.tdiv X 64)) n hx.1 (by omega)
        exact ⟨_, rfl, ht.1, fun _ => ht.2⟩

theorem reader_ok (l0 : List Int) (hw : ∀ x ∈ l0, (Lit.int .u8 x).wf = true) :
    ∃ l, spec_newReader.f l0 = some (l, 0) ∧ (∀ x ∈ l, 0 ≤ x ∧ x ≤ 255) ∧ l.length ≤ 2000 := by
  have hb : ∀ x ∈ l0, 0 ≤ x ∧ x ≤ 255 := by
    intro x hx
    have h := hw x hx
    simp [Lit.wf, IntKind.min, IntKind.max, IntKind.signed, IntKind.bits] at h
    omega
  unfold spec_newReader.f
  by_cases h : (l0.length : Int) > 2000
  · rw [if_pos h, if_pos (by omega)]
    exact ⟨_, rfl, fun x hx => hb x (List.mem_of_mem_take hx), by rw [List.length_take]; omega⟩
  · rw [if_neg h]
    exact ⟨_, rfl, hb, by omega⟩

theorem one_ok (l : List Int) (hl : ∀ x ∈ l, 0 ≤ x ∧ x ≤ 255) (hn : l.length ≤ 2000) (k : Nat) (p : Int) (xs : List Int) (hp : 0 ≤ p) (hp' : p ≤ 1000000) (hx : 1 ≤ xs.length) :
    ∃ v, spec_reader_one.f (k + 1) l p xs = some (v, p + 1) ∧ v ∈ xs := by
  obtain ⟨v, hv, h0, h1⟩ := pick_ok l hl hn k p (xs.length : Int) hp hp'
  have h2 := h1 (by omega)
  unfold spec_reader_one.f
  rw [hv]
  simp only [Option.bind_some]
  rw [if_pos h0, if_pos h2]
  refine ⟨_, rfl, ?_⟩
  unfold rd
  have h3 : v.toNat < xs.length := by omega
  rw [List.getD_eq_getElem?_getD, List.getElem?_eq_getElem h3]
  exact List.getElem_mem h3

theorem rd_nat (l : List Int) (i : Nat) (h : i < l.length) : rd l (i : Int) = l[i] := by
  unfold rd
  rw [Int.toNat_natCast, List.getD_eq_getElem?_getD, List.getElem?_eq_getElem h]
  rfl

theorem step_nat (i : Nat) (h : i < 4611686018427387904) : wrap64 ((i : Int) + 1) = ((i + 1 : Nat) : Int) := by
  rw [IntWalk.wrap64_in ((i : Int) + 1) (by omega)]
  rfl

theorem equalInts_l0 (a b : List Int) (hab : a.length = b.length) (hl : a.length ≤ 2000000) : ∀ (d k i : Nat), i + d = a.length → d < k → laws_equalInts.l0 k a b (i : Int) = some (decide (a.drop i = b.drop i)) := by
  intro d
  induction d with
  | zero =>
    intro k i hi hk
    obtain ⟨k, rfl⟩ : ∃ m, k = m + 1 := ⟨k - 1, by omega⟩
    simp only [laws_equalInts.l0]
    rw [if_neg (by omega), List.drop_eq_nil_of_le (by omega), List.drop_eq_nil_of_le (by omega)]
    rfl
  | succ d ih =>
    intro k i hi hk
    obtain ⟨k, rfl⟩ : ∃ m, k = m + 1 := ⟨k - 1, by omega⟩
    simp only [laws_equalInts.l0]
    rw [if_pos (by omega), if_pos (by omega), if_pos (by omega), step_nat i (by omega), rd_nat a i (by omega), rd_nat b i (by omega)]
    rw [List.drop_eq_getElem_cons (by omega : i < a.length), List.drop_eq_getElem_cons (by omega : i < b.length)]
    by_cases e : a[i]'(by omega) = b[i]'(by omega)
    · rw [if_pos e, ih k (i + 1) (by omega) (by omega), e]
      exact congrArg some (decide_eq_decide.mpr ⟨fun h => by rw [h], fun h => (List.cons.inj h).2⟩)
    · rw [if_neg e]
      exact congrArg some (decide_eq_false (fun h => e (List.cons.inj h).1)).symm

theorem equalInts_ok (a b : List Int) (hl : a.length ≤ 2000000) (k : Nat) (hk : a.length < k) : laws_equalInts.f k a b = some (decide (a = b)) := by
  unfold laws_equalInts.f
  by_cases h : a.length = b.length
  · rw [if_pos (by omega)]
    exact equalInts_l0 a b h hl a.length k 0 (by omega) hk
  · rw [if_neg (by omega), decide_eq_false (fun e => h (by rw [e]))]

theorem equalInts_self (a : List Int) (hl : a.length ≤ 2000000) (k : Nat) (hk : a.length < k) : laws_equalInts.f k a a = some true := by
  rw [equalInts_ok a a hl k hk, decide_eq_true rfl]

theorem inRange_val (x a b : Int) : spec_inRange.f x a b = some (decide (a ≤ x ∧ x ≤ b)) := by
  unfold spec_inRange.f
  by_cases h : a ≤ x
  · rw [if_pos h]; simp [h]
  · rw [if_neg h]; simp [h]

/-- The bytes of a number by seven bits; the first number bounds how many. -/
def gr : Nat → Int → List Int
  | 0, x => [x]
  | f + 1, x => if x > 127 then (x % 128 + 128) :: gr f (x / 128) else [x]

theorem gr_length : ∀ (f : Nat) (x : Int), (gr f x).length ≤ f + 1
  | 0, _ => by simp [gr]
  | f + 1, x => by
    unfold gr
    split
    · have := gr_length f (x / 128)
      simp only [List.length_cons]
      omega
    · simp

theorem gr1 (f : Nat) (x : Int) (h : x ≤ 127) : gr (f + 1) x = [x] := by
  unfold gr
  rw [if_neg (by omega)]

theorem grS (f : Nat) (x : Int) (h : 128 ≤ x) : gr (f + 1) x = (x % 128 + 128) :: gr f (x / 128) := by
  rw [gr, if_pos (by omega)]

theorem gr2 (f : Nat) (x : Int) (h : 128 ≤ x) (h2 : x < 16384) : gr (f + 2) x = [x % 128 + 128, x / 128] := by
  rw [grS (f + 1) x h, gr1 f (x / 128) (by omega)]

theorem gr3 (f : Nat) (x : Int) (h : 16384 ≤ x) (h2 : x < 2097152) : gr (f + 3) x = [x % 128 + 128, x / 128 % 128 + 128, x / 128 / 128] := by
  rw [grS (f + 2) x (by omega), gr2 f (x / 128) (by omega) (by omega)]

theorem gr4 (f : Nat) (x : Int) (h : 2097152 ≤ x) (h2 : x < 268435456) : gr (f + 4) x = [x % 128 + 128, x / 128 % 128 + 128, x / 128 / 128 % 128 + 128, x / 128 / 128 / 128] := by
  rw [grS (f + 3) x (by omega), gr3 f (x / 128) (by omega) (by omega)]

theorem specGr_l0 : ∀ (f k : Nat) (x : Int) (o : List Int), f < k → 0 ≤ x → x < 128 ^ (f + 1) → x < 9223372036854775808 → o.length + f ≤ 1000 → spec_group.l0 k x o = some (o ++ gr f x) := by
  intro f
  induction f with
  | zero =>
    intro k x o hk h0 h1 h2 ho
    obtain ⟨k, rfl⟩ : ∃ m, k = m + 1 := ⟨k - 1, by omega⟩
    rw [spec_group.l0, if_neg (by omega), if_pos (by omega)]
    rfl
  | succ f ih =>
    intro k x o hk h0 h1 h2 ho
    obtain ⟨k, rfl⟩ : ∃ m, k = m + 1 := ⟨k - 1, by omega⟩
    rw [spec_group.l0]
    by_cases h : x > 127
    · rw [if_pos (by omega), if_pos (by omega), Int.tdiv_eq_ediv_of_nonneg h0, Int.tmod_eq_emod_of_nonneg h0, IntWalk.wrap64_in (x / 128) (by omega), IntWalk.wrap64_in _ (by omega)]
      have hp : (128 : Int) ^ (f + 1 + 1) = 128 * 128 ^ (f + 1) := by rw [Int.pow_succ, Int.mul_comm]
      rw [ih k (x / 128) _ (by omega) (by omega) (by rw [hp] at h1; omega) (by omega) (by rw [List.length_append, List.length_singleton]; omega)]
      rw [gr, if_pos h, List.append_assoc]
      simp [Int.add_comm]
    · rw [if_neg (by omega), if_pos (by omega), gr, if_neg h]

theorem specGr_ok (x : Int) (h0 : 0 ≤ x) (h1 : x < 9223372036854775808) (k : Nat) (hk : 10 ≤ k) : spec_group.f k x = some (gr 9 x) := by
  unfold spec_group.f
  have := specGr_l0 9 k x [] (by omega) h0 (by omega) h1 (by simp)
  rw [List.nil_append] at this
  exact this

theorem within_val (x a b : Int) : impl_within.f x a b = some (decide (a ≤ x ∧ x ≤ b)) := by
  unfold impl_within.f
  by_cases h : a ≤ x
  · rw [if_pos h]; simp [h]
  · rw [if_neg h]; simp [h]

theorem implGr_l0 : ∀ (f k : Nat) (x : Int) (o : List Int), f < k → 0 ≤ x → x < 128 ^ (f + 1) → x < 9223372036854775808 → o.length + f ≤ 1000 → impl_groups.l0 k x o = some (o ++ gr f x) := by
  intro f
  induction f with
  | zero =>
    intro k x o hk h0 h1 h2 ho
    obtain ⟨k, rfl⟩ : ∃ m, k = m + 1 := ⟨k - 1, by omega⟩
    rw [impl_groups.l0, if_neg (by omega), if_pos (by omega)]
    rfl
  | succ f ih =>
    intro k x o hk h0 h1 h2 ho
    obtain ⟨k, rfl⟩ : ∃ m, k = m + 1 := ⟨k - 1, by omega⟩
    rw [impl_groups.l0]
    by_cases h : x > 127
    · rw [if_pos (by omega), if_pos (by omega), Int.tdiv_eq_ediv_of_nonneg h0, Int.tmod_eq_emod_of_nonneg h0, IntWalk.wrap64_in (x / 128) (by omega), IntWalk.wrap64_in _ (by omega)]
      have hp : (128 : Int) ^ (f + 1 + 1) = 128 * 128 ^ (f + 1) := by rw [Int.pow_succ, Int.mul_comm]
      rw [ih k (x / 128) _ (by omega) (by omega) (by rw [hp] at h1; omega) (by omega) (by rw [List.length_append, List.length_singleton]; omega)]
      rw [gr, if_pos h, List.append_assoc]
      simp [Int.add_comm]
    · rw [if_neg (by omega), if_pos (by omega), gr, if_neg h]

theorem implGr_ok (x : Int) (h0 : 0 ≤ x) (h1 : x < 9223372036854775808) (k : Nat) (hk : 10 ≤ k) : impl_groups.f k x = some (gr 9 x) := by
  unfold impl_groups.f
  have := implGr_l0 9 k x [] (by omega) h0 (by omega) h1 (by simp)
  rw [List.nil_append] at this
  exact this

/-- What both return. -/
def grB (x : Int) : List Int := if 0 ≤ x ∧ x ≤ 1000000 then gr 9 x else []

theorem grB_length (x : Int) : (grB x).length ≤ 10 := by
  unfold grB
  split
  · exact gr_length 9 x
  · simp

theorem implGroupsOf_ok (x : Int) (k : Nat) (hk : 10 ≤ k) : impl_GroupsOf.f k x = some (grB x) := by
  unfold impl_GroupsOf.f grB
  rw [within_val]
  simp only [Option.bind_some, decide_eq_true_eq]
  by_cases h : 0 ≤ x ∧ x ≤ 1000000
  · rw [if_pos h, if_pos h, implGr_ok x h.1 (by omega) k hk]
    rfl
  · rw [if_neg h, if_neg h]

theorem specGroupsOf_ok (x : Int) (k : Nat) (hk : 10 ≤ k) : spec_GroupsOf.f k x = some (grB x) := by
  unfold spec_GroupsOf.f grB
  rw [inRange_val]
  simp only [Option.bind_some, decide_eq_true_eq]
  by_cases h : 0 ≤ x ∧ x ≤ 1000000
  · rw [if_pos h, if_pos h, specGr_ok x h.1 (by omega) k hk]
    rfl
  · rw [if_neg h, if_neg h]

/-- Numbers of one byte. -/
def okB (l : List Int) : Bool := l.all fun x => decide (0 ≤ x ∧ x ≤ 255)

theorem okB_iff (l : List Int) : okB l = true ↔ ∀ x ∈ l, 0 ≤ x ∧ x ≤ 255 := by simp [okB]

theorem bytesAlone_val (l : List Int) : impl_bytesAlone.f l = some (okB l) := by
  unfold impl_bytesAlone.f okB
  congr 1
  induction l with
  | nil => rfl
  | cons x l ih =>
    rw [List.any_cons, List.all_cons, ← ih]
    have h : (decide (x < 0) || decide (x > 255)) = !(decide (0 ≤ x ∧ x ≤ 255)) := by
      by_cases h1 : x < 0
      · simp [h1]
      · by_cases h2 : x > 255
        · simp [h2]
        · simp [h1, h2]; omega
    rw [h, Bool.not_or, Bool.not_not]

theorem bytesOk_val (l : List Int) : impl_bytesOk.f l = some (okB l && decide (l.length ≤ 16)) := by
  unfold impl_bytesOk.f
  rw [bytesAlone_val]
  simp only [Option.bind_some]
  by_cases h : l.length ≤ 16
  · rw [if_pos (by omega)]; simp [h]
  · rw [if_neg (by omega)]; simp [h]

/-- The number told by bytes from place i on, x up to now and the unit B. -/
def numAt : Nat → List Int → Int → Int → Nat → Int × Int
  | 0, _, _, _, _ => (0, 0)
  | _ + 1, [], _, _, _ => (0, 0)
  | f + 1, b :: t, x, B, i =>
    if b < 128 then (if i > 0 ∧ b = 0 then (0, 0) else if x + b % 128 * B > 1000000 then (0, 0) else (x + b % 128 * B, (i : Int) + 1))
    else numAt f t (x + b % 128 * B) (B * 128) (i + 1)

/-- The units. -/
def isUnit (i : Nat) (B : Int) : Prop := (i = 0 ∧ B = 1) ∨ (i = 1 ∧ B = 128) ∨ (i = 2 ∧ B = 16384) ∨ (i = 3 ∧ B = 2097152) ∨ (i = 4 ∧ B = 268435456)

theorem gr_len_iff (i : Nat) (B x c : Int) (hB : isUnit i B) (hi : i < 4) (hx0 : 0 ≤ x) (hx1 : x < B) (hc0 : 0 ≤ c) (hc1 : c < 128) : ((gr 9 (x + c * B)).length : Int) = (i : Int) + 1 ↔ ¬ (i > 0 ∧ c = 0) := by
  rcases hB with ⟨e1, e2⟩ | ⟨e1, e2⟩ | ⟨e1, e2⟩ | ⟨e1, e2⟩ | ⟨e1, e2⟩
  · subst e1; subst e2
    rw [gr1 8 _ (by omega)]
    simp
  · subst e1; subst e2
    by_cases h : c = 0
    · rw [gr1 8 _ (by omega)]
      simp [h]
    · rw [gr2 7 _ (by omega) (by omega)]
      simp [h]
  · subst e1; subst e2
    by_cases h : c = 0
    · by_cases h2 : x < 128
      · rw [gr1 8 _ (by omega)]
        simp [h]
      · rw [gr2 7 _ (by omega) (by omega)]
        simp [h]
    · rw [gr3 6 _ (by omega) (by omega)]
      simp [h]
  · subst e1; subst e2
    by_cases h : c = 0
    · by_cases h2 : x < 128
      · rw [gr1 8 _ (by omega)]
        simp [h]
      · by_cases h3 : x < 16384
        · rw [gr2 7 _ (by omega) (by omega)]
          simp [h]
        · rw [gr3 6 _ (by omega) (by omega)]
          simp [h]
    · rw [gr4 5 _ (by omega) (by omega)]
      simp [h]
  · omega

theorem unit_next (i : Nat) (B : Int) (hB : isUnit i B) (hi : i < 4) : isUnit (i + 1) (B * 128) := by
  unfold isUnit at hB ⊢
  omega

theorem unit_step (i : Nat) (B x c : Int) (hB : isUnit i B) (hi : i < 4) (hx0 : 0 ≤ x) (hx1 : x < B) (hc0 : 0 ≤ c) (hc1 : c < 128) : 0 ≤ c * B ∧ c * B ≤ 266338304 ∧ 0 ≤ x + c * B ∧ x + c * B < B * 128 ∧ 1 ≤ B ∧ B ≤ 2097152 := by
  rcases hB with ⟨e1, e2⟩ | ⟨e1, e2⟩ | ⟨e1, e2⟩ | ⟨e1, e2⟩ | ⟨e1, e2⟩ <;> subst e2 <;> omega

theorem implNum_l0 (l : List Int) (hb : ∀ x ∈ l, 0 ≤ x ∧ x ≤ 255) (hl : l.length ≤ 2000000) : ∀ (f k i : Nat) (x B : Int), i + f = 4 → 2 * f + 20 ≤ k → isUnit i B → 0 ≤ x → x < B → impl_numberAt.l0 k l x B (i : Int) = some (numAt f (l.drop i) x B i) := by
  intro f
  induction f with
  | zero =>
    intro k i x B hi hk hB hx0 hx1
    obtain ⟨k, rfl⟩ : ∃ m, k = m + 2 := ⟨k - 2, by omega⟩
    rw [impl_numberAt.l0, decide_eq_false (by omega)]
    rw [impl_numberAt.j1]
    simp [numAt]
  | succ f ih =>
    intro k i x B hi hk hB hx0 hx1
    obtain ⟨k, rfl⟩ : ∃ m, k = m + 2 := ⟨k - 2, by omega⟩
    rw [impl_numberAt.l0]
    by_cases h : i < l.length
    · rw [if_pos (by omega), decide_eq_true (by omega), impl_numberAt.j1]
      simp only [if_true]
      have hx := hb (l[i]'h) (List.getElem_mem h)
      rw [if_pos (by omega), if_pos (by omega), step_nat i (by omega), rd_nat l i h, List.drop_eq_getElem_cons h]
      generalize l[i]'h = b at hx ⊢
      rw [Int.tmod_eq_emod_of_nonneg hx.1]
      have hu := unit_step i B x (b % 128) hB (by omega) hx0 hx1 (by omega) (by omega)
      rw [IntWalk.wrap64_in (b % 128 * B) (by omega), IntWalk.wrap64_in (x + b % 128 * B) (by omega), IntWalk.wrap64_in (B * 128) (by omega)]
      by_cases h1 : b < 128
      · rw [if_pos h1, numAt, if_pos h1]
        have hlen := gr_len_iff i B x (b % 128) hB (by omega) hx0 hx1 (by omega) (by omega)
        by_cases h2 : x + b % 128 * B > 1000000
        · rw [if_pos h2]
          by_cases h3 : i > 0 ∧ b = 0
          · rw [if_pos h3]
          · rw [if_neg h3, if_pos h2]
        · rw [if_neg h2, implGr_ok _ (by omega) (by omega) k (by omega)]
          simp only [Option.bind_some]
          by_cases h3 : i > 0 ∧ b = 0
          · rw [if_neg (fun h4 => hlen.1 (by omega) (by omega)), if_pos h3]
          · rw [if_pos ((hlen.2 (by omega)).trans (by omega)), if_neg h3, if_neg h2]
            rw [show ((i + 1 : Nat) : Int) = (i : Int) + 1 by omega]
      · rw [if_neg h1, numAt, if_neg h1]
        exact ih k (i + 1) _ _ (by omega) (by omega) (unit_next i B hB (by omega)) (by omega) (by omega)
    · rw [if_neg (by omega), impl_numberAt.j1, List.drop_eq_nil_of_le (by omega)]
      simp [numAt]

/-- What both return. -/
def numB (l : List Int) : Int × Int := if okB l = true ∧ l.length ≤ 16 then numAt 4 l 0 1 0 else (0, 0)

theorem implNumberAt_ok (l : List Int) (k : Nat) (hk : 40 ≤ k) : impl_NumberAt.f k l = some (numB l) := by
  unfold impl_NumberAt.f numB
  rw [bytesOk_val]
  simp only [Option.bind_some, Bool.and_eq_true, decide_eq_true_eq]
  by_cases h : okB l = true ∧ l.length ≤ 16
  · rw [if_pos h, if_pos h]
    unfold impl_numberAt.f
    have := implNum_l0 l ((okB_iff l).1 h.1) (by omega) 4 k 0 0 1 (by omega) (by omega) (.inl ⟨rfl, rfl⟩) (by omega) (by omega)
    rw [show ((0 : Nat) : Int) = 0 from rfl, List.drop_zero] at this
    rw [this]
    rfl
  · rw [if_neg h, if_neg h]


theorem numAt_last (f : Nat) (b x B : Int) (i : Nat) (hb : b < 128) (hb0 : 0 ≤ b) (hz : ¬ (i > 0 ∧ b = 0)) (hm : x + b * B ≤ 1000000) : numAt (f + 1) [b] x B i = (x + b * B, (i : Int) + 1) := by
  rw [numAt, if_pos hb, if_neg hz, show b % 128 = b by omega, if_neg (by omega)]

theorem numAt_more (f : Nat) (c : Int) (t : List Int) (x B : Int) (i : Nat) (h0 : 0 ≤ c) (h1 : c < 128) : numAt (f + 1) ((c + 128) :: t) x B i = numAt f t (x + c * B) (B * 128) (i + 1) := by
  rw [numAt, if_neg (by omega), show (c + 128) % 128 = c by omega]

theorem back (x : Int) (h0 : 0 ≤ x) (h1 : x ≤ 1000000) : numB (gr 9 x) = (x, ((gr 9 x).length : Int)) ∧ (gr 9 x).length ≤ 4 ∧ 1 ≤ (gr 9 x).length := by
  by_cases c1 : x ≤ 127
  · rw [gr1 8 x c1]
    refine ⟨?_, by simp, by simp⟩
    unfold numB
    rw [if_pos ⟨(okB_iff _).2 (by simp; omega), by simp⟩, numAt_last 3 x 0 1 0 (by omega) h0 (by omega) (by omega)]
    simp
  · by_cases c2 : x < 16384
    · rw [gr2 7 x (by omega) c2]
      refine ⟨?_, by simp, by simp⟩
      unfold numB
      rw [if_pos ⟨(okB_iff _).2 (by simp; omega), by simp⟩, numAt_more 3 _ _ 0 1 0 (by omega) (by omega), numAt_last 2 (x / 128) _ _ 1 (by omega) (by omega) (by omega) (by omega)]
      simp only [List.length_cons, List.length_nil, Prod.mk.injEq]
      omega
    · rw [gr3 6 x (by omega) (by omega)]
      refine ⟨?_, by simp, by simp⟩
      unfold numB
      rw [if_pos ⟨(okB_iff _).2 (by simp; omega), by simp⟩, numAt_more 3 _ _ 0 1 0 (by omega) (by omega), numAt_more 2 _ _ _ _ 1 (by omega) (by omega), numAt_last 1 (x / 128 / 128) _ _ 2 (by omega) (by omega) (by omega) (by omega)]
      simp only [List.length_cons, List.length_nil, Prod.mk.injEq]
      omega

theorem draw_ok (l0 : List Int) (hw : ∀ x ∈ l0, (Lit.int .u8 x).wf = true) : ∃ x, spec_DrawGroupsOf.f 100 l0 = some x := by
  obtain ⟨b, hr, hb, hn⟩ := reader_ok l0 hw
  obtain ⟨a1, h1, _, _⟩ := pick_ok b hb hn 99 0 256 (by omega) (by omega)
  obtain ⟨a2, h2, _, _⟩ := pick_ok b hb hn 99 (0 + 1) 256 (by omega) (by omega)
  obtain ⟨a3, h3, _, _⟩ := pick_ok b hb hn 99 (0 + 1 + 1) 256 (by omega) (by omega)
  obtain ⟨a4, h4, _, _⟩ := pick_ok b hb hn 99 (0 + 1 + 1 + 1) 256 (by omega) (by omega)
  obtain ⟨a5, h5, _, _⟩ := pick_ok b hb hn 99 (0 + 1 + 1 + 1 + 1) 100 (by omega) (by omega)
  obtain ⟨v, hv, _⟩ := one_ok b hb hn 99 (0 + 1 + 1 + 1 + 1 + 1) [a1, wrap64 (128 * a2), wrap64 (a3 * a4), wrap64 (16384 + a5), 1000000, 1000001, -1, 0] (by omega) (by omega) (by simp)
  refine ⟨v, ?_⟩
  unfold spec_DrawGroupsOf.f
  simp only [hr, Option.bind_some, h1, h2, h3, h4, h5, hv]

theorem FnGroupsOf : laws_FnGroupsOf.Pure := by
  intro l0 _ _ hw
  by_cases hc : (l0.length : Int) > 1048576
  · exact ⟨0, by unfold laws_FnGroupsOf.f; rw [if_pos hc]⟩
  · refine ⟨100, ?_⟩
    obtain ⟨x, hd⟩ := draw_ok l0 hw
    have hr := grB_length x
    unfold laws_FnGroupsOf.f
    rw [if_neg hc, hd]
    simp (disch := omega) only [Option.bind_some, implGroupsOf_ok, specGroupsOf_ok, if_true, equalInts_self]
    rw [show (100 : Nat) = 99 + 1 from rfl]
    by_cases h : 0 ≤ x ∧ x ≤ 1000000
    · have hv : grB x = gr 9 x := by unfold grB; rw [if_pos h]
      obtain ⟨h1, h2, h3⟩ := back x h.1 h.2
      rw [hv]
      have hne : (((gr 9 x).length : Int) == 0) = false := beq_eq_false_iff_ne.mpr (by omega)
      rw [hne, laws_FnGroupsOf.j0]
      simp only [Bool.false_eq_true, if_false]
      rw [implNumberAt_ok _ 99 (by omega), h1, Option.bind_some]
      simp only [if_true]
      rw [decide_eq_true (by omega)]
    · have hv : grB x = [] := by unfold grB; rw [if_neg h]
      rw [hv]
      have hne : ((([] : List Int).length : Int) == 0) = true := rfl
      rw [hne, laws_FnGroupsOf.j0]
      simp only [if_true]
      rw [specGroupsOf_ok x 99 (by omega), hv, Option.bind_some, equalInts_self [] (by simp) 99 (by simp)]
      rfl

end Go.Proofs.Ytnolmimfpnngjaa.Pure
