/- The program's NumberAt returns what the reference's returns, and leaves its argument as it was: FnExactNumberAt returns true for every list of ints. Conditions: none. -/
import Derived.Test.YtnolmimfpnngjaaHFnExactNumberAtx2
namespace Go.Proofs.Ytnolmimfpnngjaa.Pure
open Go.RowKit Go.Proofs.Ytnolmimfpnngjaa.HFnExactNumberAt Go.Proofs.YtnolmimfpnngjaaW.PrintWords Go.Proofs.YtnolmimfpnngjaaW.PrintLast
open Go
set_option linter.unusedVariables false
set_option linter.unusedSimpArgs false

theorem rd_nat (l : List Int) (i : Nat) (h : i < l.length) : rd l (i : Int) = l[i] := by
  unfold rd
  rw [Int.toNat_natCast, List.getD_eq_getElem?_getD, List.getElem?_eq_getElem h]
  rfl

theorem step_nat (i : Nat) (h : i < 4611686018427387904) : wrap64 ((i : Int) + 1) = ((i + 1 : Nat) : Int) := by
  rw [IntWalk.wrap64_in ((i : Int) + 1) (by omega)]
  rfl

theorem toIntS_l0 (l : List Int) (hl : l.length ≤ 2000000) : ∀ (d k i : Nat) (o : List Int), i + d = l.length → d < k → o.length = l.length → (∀ j, j < i → o[j]? = l[j]?) → laws_toIntS.l0 k l o (i : Int) = some l := by
  intro d
  induction d with
  | zero =>
    intro k i o hi hk ho hj
    obtain ⟨k, rfl⟩ : ∃ m, k = m + 1 := ⟨k - 1, by omega⟩
    simp only [laws_toIntS.l0]
    rw [if_neg (by omega)]
    congr 1
    apply List.ext_getElem?
    intro j
    by_cases h : j < l.length
    · exact hj j (by omega)
    · rw [List.getElem?_eq_none (by omega), List.getElem?_eq_none (by omega)]
  | succ d ih =>
    intro k i o hi hk ho hj
    obtain ⟨k, rfl⟩ : ∃ m, k = m + 1 := ⟨k - 1, by omega⟩
    simp only [laws_toIntS.l0]
    rw [if_pos (by omega), if_pos (by omega), if_pos (by omega), step_nat i (by omega), Int.toNat_natCast, rd_nat l i (by omega)]
    refine ih k (i + 1) _ (by omega) (by omega) (by rw [List.length_set]; exact ho) ?_
    intro j hji
    by_cases e : i = j
    · subst e
      rw [List.getElem?_set_self (by omega), List.getElem?_eq_getElem (by omega)]
    · rw [List.getElem?_set_ne e]
      exact hj j (by omega)

theorem toIntS_ok (l : List Int) (hl : l.length ≤ 2000000) (k : Nat) (hk : l.length < k) : laws_toIntS.f k l = some l := by
  unfold laws_toIntS.f
  rw [if_pos (by omega), if_pos (by rw [Int.toNat_natCast]; omega), Int.toNat_natCast]
  exact toIntS_l0 l hl l.length k 0 _ (by omega) hk (List.length_replicate ..) (fun j hj => absurd hj (Nat.not_lt_zero _))

theorem eqIntS_l0 (a b : List Int) (hab : a.length = b.length) (hl : a.length ≤ 2000000) : ∀ (d k i : Nat), i + d = a.length → d < k → laws_eqIntS.l0 k a b (i : Int) = some (decide (a.drop i = b.drop i)) := by
  intro d
  induction d with
  | zero =>
    intro k i hi hk
    obtain ⟨k, rfl⟩ : ∃ m, k = m + 1 := ⟨k - 1, by omega⟩
    simp only [laws_eqIntS.l0]
    rw [if_neg (by omega), List.drop_eq_nil_of_le (by omega), List.drop_eq_nil_of_le (by omega)]
    rfl
  | succ d ih =>
    intro k i hi hk
    obtain ⟨k, rfl⟩ : ∃ m, k = m + 1 := ⟨k - 1, by omega⟩
    simp only [laws_eqIntS.l0]
    rw [if_pos (by omega), if_pos (by omega), if_pos (by omega), step_nat i (by omega), rd_nat a i (by omega), rd_nat b i (by omega)]
    rw [List.drop_eq_getElem_cons (by omega : i < a.length), List.drop_eq_getElem_cons (by omega : i < b.length)]
    by_cases e : a[i]'(by omega) = b[i]'(by omega)
    · rw [if_pos e, ih k (i + 1) (by omega) (by omega), e]
      exact congrArg some (decide_eq_decide.mpr ⟨fun h => by rw [h], fun h => (List.cons.inj h).2⟩)
    · rw [if_neg e]
      exact congrArg some (decide_eq_false (fun h => e (List.cons.inj h).1)).symm

theorem eqIntS_ok (a b : List Int) (hl : a.length ≤ 2000000) (k : Nat) (hk : a.length < k) : laws_eqIntS.f k a b = some (decide (a = b)) := by
  unfold laws_eqIntS.f
  by_cases h : a.length = b.length
  · rw [if_pos (by omega)]
    exact eqIntS_l0 a b h hl a.length k 0 (by omega) hk
  · rw [if_neg (by omega), decide_eq_false (fun e => h (by rw [e]))]

theorem eqIntS_self (a : List Int) (hl : a.length ≤ 2000000) (k : Nat) (hk : a.length < k) : laws_eqIntS.f k a a = some true := by
  rw [eqIntS_ok a a hl k hk, decide_eq_true rfl]

/-- Numbers of one byte. -/
def okB (l : List Int) : Bool := l.all fun x => decide (0 ≤ x ∧ x ≤ 255)

theorem okB_iff (l : List Int) : okB l = true ↔ ∀ x ∈ l, 0 ≤ x ∧ x ≤ 255 := by simp [okB]

theorem inRange_val (x a b : Int) : spec_inRange.f x a b = some (decide (a ≤ x ∧ x ≤ b)) := by
  unfold spec_inRange.f
  by_cases h : a ≤ x
  · rw [if_pos h]; simp [h]
  · rw [if_neg h]; simp [h]

theorem validBytes_l0 (l : List Int) (m : Int) (hl : l.length ≤ 2000000) : ∀ (d k i : Nat), i + d = l.length → d < k → spec_validBytes.l0 k l m (i : Int) = some (okB (l.drop i) && decide ((l.length : Int) ≤ m)) := by
  intro d
  induction d with
  | zero =>
    intro k i hi hk
    obtain ⟨k, rfl⟩ : ∃ m, k = m + 1 := ⟨k - 1, by omega⟩
    simp only [spec_validBytes.l0]
    rw [if_neg (by omega), List.drop_eq_nil_of_le (by omega)]
    simp [okB]
  | succ d ih =>
    intro k i hi hk
    obtain ⟨k, rfl⟩ : ∃ m, k = m + 1 := ⟨k - 1, by omega⟩
    simp only [spec_validBytes.l0]
    rw [if_pos (by omega), if_pos (by omega), step_nat i (by omega), rd_nat l i (by omega), inRange_val]
    rw [List.drop_eq_getElem_cons (by omega : i < l.length)]
    simp only [Option.bind_some]
    by_cases e : 0 ≤ l[i]'(by omega) ∧ l[i]'(by omega) ≤ 255
    · rw [if_pos (decide_eq_true e), ih k (i + 1) (by omega) (by omega)]
      have h : okB (l[i]'(by omega) :: l.drop (i + 1)) = okB (l.drop (i + 1)) := by
        unfold okB
        rw [List.all_cons, decide_eq_true e, Bool.true_and]
      rw [h]
    · rw [if_neg (by simpa using e)]
      have h : okB (l[i]'(by omega) :: l.drop (i + 1)) = false := by
        unfold okB
        rw [List.all_cons, decide_eq_false e, Bool.false_and]
      rw [h, Bool.false_and]

theorem validBytes_ok (l : List Int) (m : Int) (hl : l.length ≤ 2000000) (k : Nat) (hk : l.length < k) : spec_validBytes.f k l m = some (okB l && decide ((l.length : Int) ≤ m)) := by
  unfold spec_validBytes.f
  exact validBytes_l0 l m hl l.length k 0 (by omega) hk

theorem bytesAlone_val (l : List Int) : impl_bytesAlone.f l = some (okB l) := by
  unfold impl_bytesAlone.f okB
  congr 1
  induction l with
  | nil => rfl
  | cons x l ih =>
    rw [List.any_cons, List.all_cons, ← ih]
    have h : (decide (x < 0) || decide (x > 255)) = !(decide (0 ≤ x ∧ x ≤ 255)) := by
      by_cases h1 : x < 0
      · simp [h1]
      · by_cases h2 : x > 255
        · simp [h2]
        · simp [h1, h2]; omega
    rw [h, Bool.not_or, Bool.not_not]

theorem bytesOk_val (l : List Int) : impl_bytesOk.f l = some (okB l && decide (l.length ≤ 16)) := by
  unfold impl_bytesOk.f
  rw [bytesAlone_val]
  simp only [Option.bind_some]
  by_cases h : l.length ≤ 16
  · rw [if_pos (by omega)]; simp [h]
  · rw [if_neg (by omega)]; simp [h]

/-- The bytes of a number by seven bits; the first number bounds how many. -/
def gr : Nat → Int → List Int
  | 0, x => [x]
  | f + 1, x => if x > 127 then (x % 128 + 128) :: gr f (x / 128) else [x]

theorem gr_length : ∀ (f : Nat) (x : Int), (gr f x).length ≤ f + 1
  | 0, _ => by simp [gr]
  | f + 1, x => by
    unfold gr
    split
    · have := gr_length f (x / 128)
      simp only [List.length_cons]
      omega
    · simp

theorem gr1 (f : Nat) (x : Int) (h : x ≤ 127) : gr (f + 1) x = [x] := by
  unfold gr
  rw [if_neg (by omega)]

theorem grS (f : Nat) (x : Int) (h : 128 ≤ x) : gr (f + 1) x = (x % 128 + 128) :: gr f (x / 128) := by
  rw [gr, if_pos (by omega)]

theorem gr2 (f : Nat) (x : Int) (h : 128 ≤ x) (h2 : x < 16384) : gr (f + 2) x = [x % 128 + 128, x / 128] := by
  rw [grS (f + 1) x h, gr1 f (x / 128) (by omega)]

theorem gr3 (f : Nat) (x : Int) (h : 16384 ≤ x) (h2 : x < 2097152) : gr (f + 3) x = [x % 128 + 128, x / 128 % 128 + 128, x / 128 / 128] := by
  rw [grS (f + 2) x (by omega), gr2 f (x / 128) (by omega) (by omega)]

theorem gr4 (f : Nat) (x : Int) (h : 2097152 ≤ x) (h2 : x < 268435456) : gr (f + 4) x = [x % 128 + 128, x / 128 % 128 + 128, x / 128 / 128 % 128 + 128, x / 128 / 128 / 128] := by
  rw [grS (f + 3) x (by omega), gr3 f (x / 128) (by omega) (by omega)]

theorem implGr_l0 : ∀ (f k : Nat) (x : Int) (o : List Int), f < k → 0 ≤ x → x < 128 ^ (f + 1) → x < 9223372036854775808 → o.length + f ≤ 1000 → impl_groups.l0 k x o = some (o ++ gr f x) := by
  intro f
  induction f with
  | zero =>
    intro k x o hk h0 h1 h2 ho
    obtain ⟨k, rfl⟩ : ∃ m, k = m + 1 := ⟨k - 1, by omega⟩
    rw [impl_groups.l0, if_neg (by omega), if_pos (by omega)]
    rfl
  | succ f ih =>
    intro k x o hk h0 h1 h2 ho
    obtain ⟨k, rfl⟩ : ∃ m, k = m + 1 := ⟨k - 1, by omega⟩
    rw [impl_groups.l0]
    by_cases h : x > 127
    · rw [if_pos (by omega), if_pos (by omega), Int.tdiv_eq_ediv_of_nonneg h0, Int.tmod_eq_emod_of_nonneg h0, IntWalk.wrap64_in (x / 128) (by omega), IntWalk.wrap64_in _ (by omega)]
      have hp : (128 : Int) ^ (f + 1 + 1) = 128 * 128 ^ (f + 1) := by rw [Int.pow_succ, Int.mul_comm]
      rw [ih k (x / 128) _ (by omega) (by omega) (by rw [hp] at h1; omega) (by omega) (by rw [List.length_append, List.length_singleton]; omega)]
      rw [gr, if_pos h, List.append_assoc]
      simp [Int.add_comm]
    · rw [if_neg (by omega), if_pos (by omega), gr, if_neg h]

theorem implGr_ok (x : Int) (h0 : 0 ≤ x) (h1 : x < 9223372036854775808) (k : Nat) (hk : 10 ≤ k) : impl_groups.f k x = some (gr 9 x) := by
  unfold impl_groups.f
  have := implGr_l0 9 k x [] (by omega) h0 (by omega) h1 (by simp)
  rw [List.nil_append] at this
  exact this

/-- The number told by bytes from place i on, x up to now and the unit B. -/
def numAt : Nat → List Int → Int → Int → Nat → Int × Int
  | 0, _, _, _, _ => (0, 0)
  | _ + 1, [], _, _, _ => (0, 0)
  | f + 1, b :: t, x, B, i =>
    if b < 128 then (if i > 0 ∧ b = 0 then (0, 0) else if x + b % 128 * B > 1000000 then (0, 0) else (x + b % 128 * B, (i : Int) + 1))
    else numAt f t (x + b % 128 * B) (B * 128) (i + 1)

/-- The units. -/
def isUnit (i : Nat) (B : Int) : Prop := (i = 0 ∧ B = 1) ∨ (i = 1 ∧ B = 128) ∨ (i = 2 ∧ B = 16384) ∨ (i = 3 ∧ B = 2097152) ∨ (i = 4 ∧ B = 268435456)

theorem gr_len_iff (i : Nat) (B x c : Int) (hB : isUnit i B) (hi : i < 4) (hx0 : 0 ≤ x) (hx1 : x < B) (hc0 : 0 ≤ c) (hc1 : c < 128) : ((gr 9 (x + c * B)).length : Int) = (i : Int) + 1 ↔ ¬ (i > 0 ∧ c = 0) := by
  rcases hB with ⟨e1, e2⟩ | ⟨e1, e2⟩ | ⟨e1, e2⟩ | ⟨e1, e2⟩ | ⟨e1, e2⟩
  · subst e1; subst e2
    rw [gr1 8 _ (by omega)]
    simp
  · subst e1; subst e2
    by_cases h : c = 0
    · rw [gr1 8 _ (by omega)]
      simp [h]
    · rw [gr2 7 _ (by omega) (by omega)]
      simp [h]
  · subst e1; subst e2
    by_cases h : c = 0
    · by_cases h2 : x < 128
      · rw [gr1 8 _ (by omega)]
        simp [h]
      · rw [gr2 7 _ (by omega) (by omega)]
        simp [h]
    · rw [gr3 6 _ (by omega) (by omega)]
      simp [h]
  · subst e1; subst e2
    by_cases h : c = 0
    · by_cases h2 : x < 128
      · rw [gr1 8 _ (by omega)]
        simp [h]
      · by_cases h3 : x < 16384
        · rw [gr2 7 _ (by omega) (by omega)]
          simp [h]
        · rw [gr3 6 _ (by omega) (by omega)]
          simp [h]
    · rw [gr4 5 _ (by omega) (by omega)]
      simp [h]
  · omega

theorem unit_next (i : Nat) (B : Int) (hB : isUnit i B) (hi : i < 4) : isUnit (i + 1) (B * 128) := by
  unfold isUnit at hB ⊢
  omega

theorem unit_step (i : Nat) (B x c : Int) (hB : isUnit i B) (hi : i < 4) (hx0 : 0 ≤ x) (hx1 : x < B) (hc0 : 0 ≤ c) (hc1 : c < 128) : 0 ≤ c * B ∧ c * B ≤ 266338304 ∧ 0 ≤ x + c * B ∧ x + c * B < B * 128 ∧ 1 ≤ B ∧ B ≤ 2097152 := by
  rcases hB with ⟨e1, e2⟩ | ⟨e1, e2⟩ | ⟨e1, e2⟩ | ⟨e1, e2⟩ | ⟨e1, e2⟩ <;> subst e2 <;> omega

theorem implNum_l0 (l : List Int) (hb : ∀ x ∈ l, 0 ≤ x ∧ x ≤ 255) (hl : l.length ≤ 2000000) : ∀ (f k i : Nat) (x B : Int), i + f = 4 → 2 * f + 20 ≤ k → isUnit i B → 0 ≤ x → x < B → impl_numberAt.l0 k l x B (i : Int) = some (numAt f (l.drop i) x B i) := by
  intro f
  induction f with
  | zero =>
    intro k i x B hi hk hB hx0 hx1
    obtain ⟨k, rfl⟩ : ∃ m, k = m + 2 := ⟨k - 2, by omega⟩
    rw [impl_numberAt.l0, decide_eq_false (by omega)]
    rw [impl_numberAt.j1]
    simp [numAt]
  | succ f ih =>
    intro k i x B hi hk hB hx0 hx1
    obtain ⟨k, rfl⟩ : ∃ m, k = m + 2 := ⟨k - 2, by omega⟩
    rw [impl_numberAt.l0]
    by_cases h : i < l.length
    · rw [if_pos (by omega), decide_eq_true (by omega), impl_numberAt.j1]
      simp only [if_true]
      have hx := hb (l[i]'h) (List.getElem_mem h)
      rw [if_pos (by omega), if_pos (by omega), step_nat i (by omega), rd_nat l i h, List.drop_eq_getElem_cons h]
      generalize l[i]'h = b at hx ⊢
      rw [Int.tmod_eq_emod_of_nonneg hx.1]
      have hu := unit_step i B x (b % 128) hB (by omega) hx0 hx1 (by omega) (by omega)
      rw [IntWalk.wrap64_in (b % 128 * B) (by omega), IntWalk.wrap64_in (x + b % 128 * B) (by omega), IntWalk.wrap64_in (B * 128) (by omega)]
      by_cases h1 : b < 128
      · rw [if_pos h1, numAt, if_pos h1]
        have hlen := gr_len_iff i B x (b % 128) hB (by omega) hx0 hx1 (by omega) (by omega)
        by_cases h2 : x + b % 128 * B > 1000000
        · rw [if_pos h2]
          by_cases h3 : i > 0 ∧ b = 0
          · rw [if_pos h3]
          · rw [if_neg h3, if_pos h2]
        · rw [if_neg h2, implGr_ok _ (by omega) (by omega) k (by omega)]
          simp only [Option.bind_some]
          by_cases h3 : i > 0 ∧ b = 0
          · rw [if_neg (fun h4 => hlen.1 (by omega) (by omega)), if_pos h3]
          · rw [if_pos ((hlen.2 (by omega)).trans (by omega)), if_neg h3, if_neg h2]
            rw [show ((i + 1 : Nat) : Int) = (i : Int) + 1 by omega]
      · rw [if_neg h1, numAt, if_neg h1]
        exact ih k (i + 1) _ _ (by omega) (by omega) (unit_next i B hB (by omega)) (by omega) (by omega)
    · rw [if_neg (by omega), impl_numberAt.j1, List.drop_eq_nil_of_le (by omega)]
      simp [numAt]

/-- What both return. -/
def numB (l : List Int) : Int × Int := if okB l = true ∧ l.length ≤ 16 then numAt 4 l 0 1 0 else (0, 0)

theorem implNumberAt_ok (l : List Int) (k : Nat) (hk : 40 ≤ k) : impl_NumberAt.f k l = some (numB l) := by
  unfold impl_NumberAt.f numB
  rw [bytesOk_val]
  simp only [Option.bind_some, Bool.and_eq_true, decide_eq_true_eq]
  by_cases h : okB l = true ∧ l.length ≤ 16
  · rw [if_pos h, if_pos h]
    unfold impl_numberAt.f
    have := implNum_l0 l ((okB_iff l).1 h.1) (by omega) 4 k 0 0 1 (by omega) (by omega) (.inl ⟨rfl, rfl⟩) (by omega) (by omega)
    rw [show ((0 : Nat) : Int) = 0 from rfl, List.drop_zero] at this
    rw [this]
    rfl
  · rw [if_neg h, if_neg h]

theorem specNum_l0 (l : List Int) (hb : ∀ x ∈ l, 0 ≤ x ∧ x ≤ 255) (hl : l.length ≤ 2000000) : ∀ (f k i : Nat) (x B : Int), i + f = 4 → 2 * f + 20 ≤ k → isUnit i B → 0 ≤ x → x < B → spec_readGroups.l0 k l x B (i : Int) = some (numAt f (l.drop i) x B i) := by
  intro f
  induction f with
  | zero =>
    intro k i x B hi hk hB hx0 hx1
    obtain ⟨k, rfl⟩ : ∃ m, k = m + 2 := ⟨k - 2, by omega⟩
    rw [spec_readGroups.l0, decide_eq_false (by omega)]
    rw [spec_readGroups.j1]
    simp [numAt]
  | succ f ih =>
    intro k i x B hi hk hB hx0 hx1
    obtain ⟨k, rfl⟩ : ∃ m, k = m + 2 := ⟨k - 2, by omega⟩
    rw [spec_readGroups.l0]
    by_cases h : i < l.length
    · rw [if_pos (by omega), decide_eq_true (by omega), spec_readGroups.j1]
      simp only [if_true]
      have hx := hb (l[i]'h) (List.getElem_mem h)
      rw [if_pos (by omega), if_pos (by omega), step_nat i (by omega), rd_nat l i h, List.drop_eq_getElem_cons h]
      generalize l[i]'h = b at hx ⊢
      rw [Int.tmod_eq_emod_of_nonneg hx.1]
      have hu := unit_step i B x (b % 128) hB (by omega) hx0 hx1 (by omega) (by omega)
      rw [IntWalk.wrap64_in (b % 128 * B) (by omega), IntWalk.wrap64_in (x + b % 128 * B) (by omega), IntWalk.wrap64_in (128 * B) (by omega)]
      by_cases h1 : b < 128
      · rw [if_pos h1, numAt, if_pos h1]
        rw [show ((i + 1 : Nat) : Int) = (i : Int) + 1 by omega]
        by_cases h4 : (i : Int) > 0
        · rw [if_pos h4]
          by_cases h5 : b = 0
          · rw [if_pos h5, if_pos ⟨by omega, h5⟩]
          · rw [if_neg h5, if_neg (show ¬ (i > 0 ∧ b = 0) from fun e => h5 e.2)]
            by_cases h6 : x + b % 128 * B > 1000000
            · simp only [if_pos h6]
            · simp only [if_neg h6]
        · rw [if_neg h4, if_neg (show ¬ (i > 0 ∧ b = 0) from fun e => h4 (by omega))]
          by_cases h6 : x + b % 128 * B > 1000000
          · simp only [if_pos h6]
          · simp only [if_neg h6]
      · rw [if_neg h1, numAt, if_neg h1, Int.mul_comm 128 B]
        exact ih k (i + 1) _ _ (by omega) (by omega) (unit_next i B hB (by omega)) (by omega) (by omega)
    · rw [if_neg (by omega), spec_readGroups.j1, List.drop_eq_nil_of_le (by omega)]
      simp [numAt]

theorem specNumberAt_ok (l : List Int) (hl : l.length ≤ 2000000) (k : Nat) (hk : l.length + 40 ≤ k) : spec_NumberAt.f k l = some (numB l) := by
  unfold spec_NumberAt.f numB
  rw [validBytes_ok l 16 hl k (by omega)]
  simp only [Option.bind_some, Bool.and_eq_true, decide_eq_true_eq]
  by_cases h : okB l = true ∧ l.length ≤ 16
  · rw [if_pos ⟨h.1, by omega⟩, if_pos h]
    unfold spec_readGroups.f
    have := specNum_l0 l ((okB_iff l).1 h.1) (by omega) 4 k 0 0 1 (by omega) (by omega) (.inl ⟨rfl, rfl⟩) (by omega) (by omega)
    rw [show ((0 : Nat) : Int) = 0 from rfl, List.drop_zero] at this
    rw [this]
    rfl
  · rw [if_neg (fun e => h ⟨e.1, by omega⟩), if_neg h]


theorem FnExactNumberAt : laws_FnExactNumberAt.Pure := by
  intro l _ _ _
  by_cases hc : (l.length : Int) > 1048576
  · exact ⟨0, by unfold laws_FnExactNumberAt.f; rw [if_pos hc]⟩
  · have hl : l.length ≤ 2000000 := by omega
    refine ⟨l.length + 100, ?_⟩
    unfold laws_FnExactNumberAt.f
    rw [if_neg hc]
    simp (disch := omega) only [toIntS_ok, specNumberAt_ok, implNumberAt_ok, Option.bind_some, if_true, bne_self_eq_false]
    simp (disch := omega) only [laws_FnExactNumberAt.j0, Bool.false_eq_true, if_false, toIntS_ok, Option.bind_some, eqIntS_self, if_true]

end Go.Proofs.Ytnolmimfpnngjaa.Pure
