/- The program's GroupsOf returns what the reference's returns, in memory of its own: FnExactGroupsOf returns true for every int. Conditions: none. -/
import Derived.Test.YtnolmimfpnngjaaHFnExactGroupsOfx1
namespace Go.Proofs.Ytnolmimfpnngjaa.Pure
open Go.RowKit Go.Proofs.Ytnolmimfpnngjaa.HFnExactGroupsOf Go.Proofs.YtnolmimfpnngjaaW.PrintWords Go.Proofs.YtnolmimfpnngjaaW.PrintLast
open Go
set_option linter.unusedVariables false
set_option linter.unusedSimpArgs false

theorem rd_nat (l : List Int) (i : Nat) (h : i < l.length) : rd l (i : Int) = l[i] := by
  unfold rd
  rw [Int.toNat_natCast, List.getD_eq_getElem?_getD, List.getElem?_eq_getElem h]
  rfl

theorem step_nat (i : Nat) (h : i < 4611686018427387904) : wrap64 ((i : Int) + 1) = ((i + 1 : Nat) : Int) := by
  rw [IntWalk.wrap64_in ((i : Int) + 1) (by omega)]
  rfl

theorem eqIntS_l0 (a b : List Int) (hab : a.length = b.length) (hl : a.length ≤ 2000000) : ∀ (d k i : Nat), i + d = a.length → d < k → laws_eqIntS.l0 k a b (i : Int) = some (decide (a.drop i = b.drop i)) := by
  intro d
  induction d with
  | zero =>
    intro k i hi hk
    obtain ⟨k, rfl⟩ : ∃ m, k = m + 1 := ⟨k - 1, by omega⟩
    simp only [laws_eqIntS.l0]
    rw [if_neg (by omega), List.drop_eq_nil_of_le (by omega), List.drop_eq_nil_of_le (by omega)]
    rfl
  | succ d ih =>
    intro k i hi hk
    obtain ⟨k, rfl⟩ : ∃ m, k = m + 1 := ⟨k - 1, by omega⟩
    simp only [laws_eqIntS.l0]
    rw [if_pos (by omega), if_pos (by omega), if_pos (by omega), step_nat i (by omega), rd_nat a i (by omega), rd_nat b i (by omega)]
    rw [List.drop_eq_getElem_cons (by omega : i < a.length), List.drop_eq_getElem_cons (by omega : i < b.length)]
    by_cases e : a[i]'(by omega) = b[i]'(by omega)
    · rw [if_pos e, ih k (i + 1) (by omega) (by omega), e]
      exact congrArg some (decide_eq_decide.mpr ⟨fun h => by rw [h], fun h => (List.cons.inj h).2⟩)
    · rw [if_neg e]
      exact congrArg some (decide_eq_false (fun h => e (List.cons.inj h).1)).symm

theorem eqIntS_ok (a b : List Int) (hl : a.length ≤ 2000000) (k : Nat) (hk : a.length < k) : laws_eqIntS.f k a b = some (decide (a = b)) := by
  unfold laws_eqIntS.f
  by_cases h : a.length = b.length
  · rw [if_pos (by omega)]
    exact eqIntS_l0 a b h hl a.length k 0 (by omega) hk
  · rw [if_neg (by omega), decide_eq_false (fun e => h (by rw [e]))]

theorem eqIntS_self (a : List Int) (hl : a.length ≤ 2000000) (k : Nat) (hk : a.length < k) : laws_eqIntS.f k a a = some true := by
  rw [eqIntS_ok a a hl k hk, decide_eq_true rfl]

/-- m, m + 1, .. : n numbers. -/
def iota (m : Int) (n : Nat) : List Int := (List.range n).map fun j : Nat => m + (j : Int)

theorem iota_length (m : Int) (n : Nat) : (iota m n).length = n := by simp [iota]
theorem iota_get (m : Int) (n j : Nat) (h : j < (iota m n).length) : (iota m n)[j] = m + (j : Int) := by simp [iota]
theorem iota_get? (m : Int) (n j : Nat) (h : j < n) : (iota m n)[j]? = some (m + (j : Int)) := by
  rw [List.getElem?_eq_getElem (by rw [iota_length]; exact h), iota_get]

theorem markIntS_l0 (n : Nat) (m : Int) (hn : n ≤ 2000000) (hm : 0 ≤ m) (hm' : m ≤ 4000000) : ∀ (d k i : Nat) (o : List Int), i + d = n → d < k → o.length = n → (∀ j, j < i → o[j]? = (iota m n)[j]?) → laws_markIntS.l0 k o (m + (i : Int)) (i : Int) = some (m + (n : Int), iota m n) := by
  intro d
  induction d with
  | zero =>
    intro k i o hi hk ho hj
    obtain ⟨k, rfl⟩ : ∃ m, k = m + 1 := ⟨k - 1, by omega⟩
    simp only [laws_markIntS.l0]
    rw [if_neg (by omega)]
    have e : i = n := by omega
    subst e
    congr 2
    apply List.ext_getElem?
    intro j
    by_cases h : j < i
    · exact hj j h
    · rw [List.getElem?_eq_none (by omega), List.getElem?_eq_none (by rw [iota_length]; omega)]
  | succ d ih =>
    intro k i o hi hk ho hj
    obtain ⟨k, rfl⟩ : ∃ m, k = m + 1 := ⟨k - 1, by omega⟩
    simp only [laws_markIntS.l0]
    rw [if_pos (by omega), if_pos (by omega), step_nat i (by omega), Int.toNat_natCast, (IntWalk.wrap64_in (m + (i : Int) + 1) (by omega)).trans (show m + (i : Int) + 1 = m + ((i + 1 : Nat) : Int) by omega)]
    refine ih k (i + 1) _ (by omega) (by omega) (by rw [List.length_set]; exact ho) ?_
    intro j hji
    by_cases e : i = j
    · subst e
      rw [List.getElem?_set_self (by omega), iota_get? m n i (by omega)]
    · rw [List.getElem?_set_ne e]
      exact hj j (by omega)

theorem markIntS_ok (l : List Int) (m : Int) (hl : l.length ≤ 2000000) (hm : 0 ≤ m) (hm' : m ≤ 4000000) (k : Nat) (hk : l.length < k) : laws_markIntS.f k l m = some (m + (l.length : Int), iota m l.length) := by
  unfold laws_markIntS.f
  have h := markIntS_l0 l.length m hl hm hm' l.length k 0 l (by omega) hk rfl (fun j hj => absurd hj (Nat.not_lt_zero _))
  rw [show m + ((0 : Nat) : Int) = m by omega] at h
  exact h

theorem heldIntS_l0 (n : Nat) (m : Int) (hn : n ≤ 2000000) (hm : 0 ≤ m) (hm' : m ≤ 4000000) : ∀ (d k i : Nat), i + d = n → d < k → laws_heldIntS.l0 k (iota m n) (m + (i : Int)) (i : Int) = some (m + (n : Int)) := by
  intro d
  induction d with
  | zero =>
    intro k i hi hk
    obtain ⟨k, rfl⟩ : ∃ m, k = m + 1 := ⟨k - 1, by omega⟩
    simp only [laws_heldIntS.l0]
    rw [if_neg (by rw [iota_length]; omega)]
    have e : i = n := by omega
    rw [e]
  | succ d ih =>
    intro k i hi hk
    obtain ⟨k, rfl⟩ : ∃ m, k = m + 1 := ⟨k - 1, by omega⟩
    simp only [laws_heldIntS.l0]
    rw [if_pos (by rw [iota_length]; omega), if_pos (by omega), rd_nat _ i (by rw [iota_length]; omega), iota_get, if_pos rfl, step_nat i (by omega), (IntWalk.wrap64_in (m + (i : Int) + 1) (by omega)).trans (show m + (i : Int) + 1 = m + ((i + 1 : Nat) : Int) by omega)]
    exact ih k (i + 1) (by omega) (by omega)

theorem heldIntS_ok (n : Nat) (m : Int) (hn : n ≤ 2000000) (hm : 0 ≤ m) (hm' : m ≤ 4000000) (k : Nat) (hk : n < k) : laws_heldIntS.f k (iota m n) m = some (m + (n : Int)) := by
  unfold laws_heldIntS.f
  have h := heldIntS_l0 n m hn hm hm' n k 0 (by omega) hk
  rw [show m + ((0 : Nat) : Int) = m by omega] at h
  exact h

theorem inRange_val (x a b : Int) : spec_inRange.f x a b = some (decide (a ≤ x ∧ x ≤ b)) := by
  unfold spec_inRange.f
  by_cases h : a ≤ x
  · rw [if_pos h]; simp [h]
  · rw [if_neg h]; simp [h]

/-- The bytes of a number by seven bits; the first number bounds how many. -/
def gr : Nat → Int → List Int
  | 0, x => [x]
  | f + 1, x => if x > 127 then (x % 128 + 128) :: gr f (x / 128) else [x]

theorem gr_length : ∀ (f : Nat) (x : Int), (gr f x).length ≤ f + 1
  | 0, _ => by simp [gr]
  | f + 1, x => by
    unfold gr
    split
    · have := gr_length f (x / 128)
      simp only [List.length_cons]
      omega
    · simp

theorem gr1 (f : Nat) (x : Int) (h : x ≤ 127) : gr (f + 1) x = [x] := by
  unfold gr
  rw [if_neg (by omega)]

theorem grS (f : Nat) (x : Int) (h : 128 ≤ x) : gr (f + 1) x = (x % 128 + 128) :: gr f (x / 128) := by
  rw [gr, if_pos (by omega)]

theorem gr2 (f : Nat) (x : Int) (h : 128 ≤ x) (h2 : x < 16384) : gr (f + 2) x = [x % 128 + 128, x / 128] := by
  rw [grS (f + 1) x h, gr1 f (x / 128) (by omega)]

theorem gr3 (f : Nat) (x : Int) (h : 16384 ≤ x) (h2 : x < 2097152) : gr (f + 3) x = [x % 128 + 128, x / 128 % 128 + 128, x / 128 / 128] := by
  rw [grS (f + 2) x (by omega), gr2 f (x / 128) (by omega) (by omega)]

theorem gr4 (f : Nat) (x : Int) (h : 2097152 ≤ x) (h2 : x < 268435456) : gr (f + 4) x = [x % 128 + 128, x / 128 % 128 + 128, x / 128 / 128 % 128 + 128, x / 128 / 128 / 128] := by
  rw [grS (f + 3) x (by omega), gr3 f (x / 128) (by omega) (by omega)]

theorem specGr_l0 : ∀ (f k : Nat) (x : Int) (o : List Int), f < k → 0 ≤ x → x < 128 ^ (f + 1) → x < 9223372036854775808 → o.length + f ≤ 1000 → spec_group.l0 k x o = some (o ++ gr f x) := by
  intro f
  induction f with
  | zero =>
    intro k x o hk h0 h1 h2 ho
    obtain ⟨k, rfl⟩ : ∃ m, k = m + 1 := ⟨k - 1, by omega⟩
    rw [spec_group.l0, if_neg (by omega), if_pos (by omega)]
    rfl
  | succ f ih =>
    intro k x o hk h0 h1 h2 ho
    obtain ⟨k, rfl⟩ : ∃ m, k = m + 1 := ⟨k - 1, by omega⟩
    rw [spec_group.l0]
    by_cases h : x > 127
    · rw [if_pos (by omega), if_pos (by omega), Int.tdiv_eq_ediv_of_nonneg h0, Int.tmod_eq_emod_of_nonneg h0, IntWalk.wrap64_in (x / 128) (by omega), IntWalk.wrap64_in _ (by omega)]
      have hp : (128 : Int) ^ (f + 1 + 1) = 128 * 128 ^ (f + 1) := by rw [Int.pow_succ, Int.mul_comm]
      rw [ih k (x / 128) _ (by omega) (by omega) (by rw [hp] at h1; omega) (by omega) (by rw [List.length_append, List.length_singleton]; omega)]
      rw [gr, if_pos h, List.append_assoc]
      simp [Int.add_comm]
    · rw [if_neg (by omega), if_pos (by omega), gr, if_neg h]

theorem specGr_ok (x : Int) (h0 : 0 ≤ x) (h1 : x < 9223372036854775808) (k : Nat) (hk : 10 ≤ k) : spec_group.f k x = some (gr 9 x) := by
  unfold spec_group.f
  have := specGr_l0 9 k x [] (by omega) h0 (by omega) h1 (by simp)
  rw [List.nil_append] at this
  exact this

theorem within_val (x a b : Int) : impl_within.f x a b = some (decide (a ≤ x ∧ x ≤ b)) := by
  unfold impl_within.f
  by_cases h : a ≤ x
  · rw [if_pos h]; simp [h]
  · rw [if_neg h]; simp [h]

theorem implGr_l0 : ∀ (f k : Nat) (x : Int) (o : List Int), f < k → 0 ≤ x → x < 128 ^ (f + 1) → x < 9223372036854775808 → o.length + f ≤ 1000 → impl_groups.l0 k x o = some (o ++ gr f x) := by
  intro f
  induction f with
  | zero =>
    intro k x o hk h0 h1 h2 ho
    obtain ⟨k, rfl⟩ : ∃ m, k = m + 1 := ⟨k - 1, by omega⟩
    rw [impl_groups.l0, if_neg (by omega), if_pos (by omega)]
    rfl
  | succ f ih =>
    intro k x o hk h0 h1 h2 ho
    obtain ⟨k, rfl⟩ : ∃ m, k = m + 1 := ⟨k - 1, by omega⟩
    rw [impl_groups.l0]
    by_cases h : x > 127
    · rw [if_pos (by omega), if_pos (by omega), Int.tdiv_eq_ediv_of_nonneg h0, Int.tmod_eq_emod_of_nonneg h0, IntWalk.wrap64_in (x / 128) (by omega), IntWalk.wrap64_in _ (by omega)]
      have hp : (128 : Int) ^ (f + 1 + 1) = 128 * 128 ^ (f + 1) := by rw [Int.pow_succ, Int.mul_comm]
      rw [ih k (x / 128) _ (by omega) (by omega) (by rw [hp] at h1; omega) (by omega) (by rw [List.length_append, List.length_singleton]; omega)]
      rw [gr, if_pos h, List.append_assoc]
      simp [Int.add_comm]
    · rw [if_neg (by omega), if_pos (by omega), gr, if_neg h]

theorem implGr_ok (x : Int) (h0 : 0 ≤ x) (h1 : x < 9223372036854775808) (k : Nat) (hk : 10 ≤ k) : impl_groups.f k x = some (gr 9 x) := by
  unfold impl_groups.f
  have := implGr_l0 9 k x [] (by omega) h0 (by omega) h1 (by simp)
  rw [List.nil_append] at this
  exact this

/-- What both return. -/
def grB (x : Int) : List Int := if 0 ≤ x ∧ x ≤ 1000000 then gr 9 x else []

theorem grB_length (x : Int) : (grB x).length ≤ 10 := by
  unfold grB
  split
  · exact gr_length 9 x
  · simp

theorem implGroupsOf_ok (x : Int) (k : Nat) (hk : 10 ≤ k) : impl_GroupsOf.f k x = some (grB x) := by
  unfold impl_GroupsOf.f grB
  rw [within_val]
  simp only [Option.bind_some, decide_eq_true_eq]
  by_cases h : 0 ≤ x ∧ x ≤ 1000000
  · rw [if_pos h, if_pos h, implGr_ok x h.1 (by omega) k hk]
    rfl
  · rw [if_neg h, if_neg h]

theorem specGroupsOf_ok (x : Int) (k : Nat) (hk : 10 ≤ k) : spec_GroupsOf.f k x = some (grB x) := by
  unfold spec_GroupsOf.f grB
  rw [inRange_val]
  simp only [Option.bind_some, decide_eq_true_eq]
  by_cases h : 0 ≤ x ∧ x ≤ 1000000
  · rw [if_pos h, if_pos h, specGr_ok x h.1 (by omega) k hk]
    rfl
  · rw [if_neg h, if_neg h]


theorem FnExactGroupsOf : laws_FnExactGroupsOf.Pure := by
  intro x _
  have hr := grB_length x
  have hi : ∀ k, 10 ≤ k → impl_GroupsOf.f k x = some (grB x) := implGroupsOf_ok x
  have hs : ∀ k, 10 ≤ k → spec_GroupsOf.f k x = some (grB x) := specGroupsOf_ok x
  generalize grB x = r at hr hi hs
  have hm2 : ¬ (1 + (r.length : Int) < 0) := by omega
  refine ⟨100, ?_⟩
  unfold laws_FnExactGroupsOf.f
  simp (disch := omega) only [hi, hs, Option.bind_some, if_true, eqIntS_self, markIntS_ok, heldIntS_ok, hm2, if_false]

end Go.Proofs.Ytnolmimfpnngjaa.Pure
