/- The program's LeastWay returns what the reference's returns, and leaves its argument as it was: FnExactLeastWay returns true for every list of ints. Conditions: none. -/
import Derived.Test.YtghnljpimkchhaaHFnExactLeastWayx2
namespace Go.Proofs.Ytghnljpimkchhaa.Pure
open Go.RowKit Go.Proofs.Ytghnljpimkchhaa.HFnExactLeastWay Go.Proofs.YtghnljpimkchhaaW.PrintWords Go.Proofs.YtghnljpimkchhaaW.PrintLast
open Go
set_option linter.unusedVariables false
set_option linter.unusedSimpArgs false

theorem rd_nat (l : List Int) (i : Nat) (h : i < l.length) : rd l (i : Int) = l[i] := by
  unfold rd
  rw [Int.toNat_natCast, List.getD_eq_getElem?_getD, List.getElem?_eq_getElem h]
  rfl

theorem step_nat (i : Nat) (h : i < 4611686018427387904) : wrap64 ((i : Int) + 1) = ((i + 1 : Nat) : Int) := by
  rw [IntWalk.wrap64_in ((i : Int) + 1) (by omega)]
  rfl

theorem within_val (x a b : Int) : impl_within.f x a b = some (decide (a ≤ x ∧ x ≤ b)) := by
  unfold impl_within.f
  by_cases h : a ≤ x
  · rw [if_pos h]; simp [h]
  · rw [if_neg h]; simp [h]

theorem inRange_val (x a b : Int) : spec_inRange.f x a b = some (decide (a ≤ x ∧ x ≤ b)) := by
  unfold spec_inRange.f
  by_cases h : a ≤ x
  · rw [if_pos h]; simp [h]
  · rw [if_neg h]; simp [h]

def okW (l : List Int) : Bool := l.all fun x => decide (1 ≤ x ∧ x ≤ 60)
theorem lwContains_val (l : List Int) : hand_Contains_LeastWay.f l = some (!okW l) := by
  unfold hand_Contains_LeastWay.f okW impl_LeastWay_1.f
  congr 1
  induction l with
  | nil => rfl
  | cons x l ih =>
    rw [List.any_cons, List.all_cons, ih, within_val, Option.bind_some, Option.getD_some, Bool.not_and]

theorem lwSpec_l0 (l : List Int) (hl : l.length ≤ 2000000) (h1 : 1 ≤ l.length) : ∀ (d k i : Nat), i + d = l.length → d < k → ∃ k', k - d - 1 ≤ k' ∧ k' < k ∧ spec_LeastWay.l0 k l (i : Int) = if (l.drop i).all (fun x => decide (1 ≤ x ∧ x ≤ 60)) = true then spec_LeastWay.l1 k' l (rd l 0) 1 0 else some (0, 0) := by
  intro d
  induction d with
  | zero =>
    intro k i hi hk
    obtain ⟨k, rfl⟩ : ∃ m, k = m + 1 := ⟨k - 1, by omega⟩
    refine ⟨k, by omega, by omega, ?_⟩
    rw [spec_LeastWay.l0, if_neg (by omega), if_pos (by omega), List.drop_eq_nil_of_le (by omega), List.all_nil, if_pos rfl]
  | succ d ih =>
    intro k i hi hk
    obtain ⟨k, rfl⟩ : ∃ m, k = m + 1 := ⟨k - 1, by omega⟩
    obtain ⟨k', g1, g2, g3⟩ := ih k (i + 1) (by omega) (by omega)
    refine ⟨k', by omega, by omega, ?_⟩
    rw [spec_LeastWay.l0, if_pos (by omega), if_pos (by omega), inRange_val, Option.bind_some, step_nat i (by omega), rd_nat l i (by omega), List.drop_eq_getElem_cons (by omega : i < l.length), List.all_cons]
    by_cases h : 1 ≤ l[i]'(by omega) ∧ l[i]'(by omega) ≤ 60
    · rw [decide_eq_true h, if_pos rfl, Bool.true_and, g3]
    · rw [decide_eq_false h, if_neg Bool.false_ne_true, Bool.false_and, if_neg Bool.false_ne_true]

def goodW (l : List Int) (r : Int × Int) : Prop := (∀ x ∈ l, r.1 ≤ x) ∧ r.1 ∈ l ∧ 1 ≤ r.2 ∧ r.2 ≤ l.length ∧ (r.2 = 1 → r.1 = rd l 0)

theorem lw_loop (l : List Int) (hl : l.length ≤ 8) : ∀ (d j k k' : Nat) (t n : Int), j + d = l.length → 1 ≤ j → (∀ i, i < j → ∀ (hi : i < l.length), t ≤ l[i]) → t ∈ l → 1 ≤ n → n ≤ (j : Int) → (n = 1 → t = rd l 0) → d + 1 < k → d < k' →
    ∃ r, impl_LeastWay.l0 k l t n = some r ∧ spec_LeastWay.l1 k' l t n (j : Int) = some r ∧ goodW l r := by
  intro d
  induction d with
  | zero =>
    intro j k k' t n hj h1 hB ht hn hn' h1n hk hk'
    obtain ⟨k, rfl⟩ : ∃ m, k = m + 1 := ⟨k - 1, by omega⟩
    obtain ⟨k', rfl⟩ : ∃ m, k' = m + 1 := ⟨k' - 1, by omega⟩
    have hm := Lib.idxBy_miss (fun _ y => decide (y < t)) l l.length 0 (fun i hi => by
      rw [getElem!_pos l i hi]
      have := hB i (by omega) hi
      exact decide_eq_false (by omega))
    rw [List.take_length] at hm
    rw [impl_LeastWay.l0, hm, if_pos (by omega), spec_LeastWay.l1, if_neg (by omega)]
    refine ⟨_, rfl, rfl, ?_, ht, hn, by show n ≤ _; omega, h1n⟩
    intro x hx
    obtain ⟨i, hi, e⟩ := List.getElem_of_mem hx
    rw [← e]
    exact hB i (by omega) hi
  | succ d ih =>
    intro j k k' t n hj h1 hB ht hn hn' h1n hk hk'
    obtain ⟨k', rfl⟩ : ∃ m, k' = m + 1 := ⟨k' - 1, by omega⟩
    rw [spec_LeastWay.l1, if_pos (by omega), if_pos (by omega), step_nat j (by omega), rd_nat l j (by omega)]
    by_cases h : l[j]'(by omega) < t
    · obtain ⟨k, rfl⟩ : ∃ m, k = m + 1 := ⟨k - 1, by omega⟩
      have hh := Lib.idxBy_hit (fun _ y => decide (y < t)) l l.length j 0 (by omega) (Nat.le_refl _) (by rw [getElem!_pos l j (by omega)]; exact decide_eq_true h) (fun i hi => by
        rw [getElem!_pos l i (by omega)]
        have := hB i hi (by omega)
        exact decide_eq_false (by omega))
      rw [List.take_length] at hh
      rw [impl_LeastWay.l0, hh, if_neg (by omega), if_pos (show (j : Int) < (l.length : Int) by omega), if_pos h, rd_nat l j (by omega), IntWalk.wrap64_in (n + 1) (by omega)]
      refine ih (j + 1) k k' _ (n + 1) (by omega) (by omega) ?_ (List.getElem_mem _) (by omega) (by omega) (fun e => by omega) (by omega) (by omega)
      intro i hi hi'
      by_cases e : i = j
      · subst e; exact Int.le_refl _
      · have := hB i (by omega) hi'
        omega
    · rw [if_neg h]
      refine ih (j + 1) k k' t n (by omega) (by omega) ?_ ht hn (by omega) h1n (by omega) (by omega)
      intro i hi hi'
      by_cases e : i = j
      · subst e; omega
      · exact hB i (by omega) hi'

theorem lw_start (l : List Int) (hl : l.length ≤ 8) (h1 : 1 ≤ l.length) (k k' : Nat) (hk : 20 ≤ k) (hk' : 20 ≤ k') : ∃ r, impl_LeastWay.l0 k l (rd l 0) 1 = some r ∧ spec_LeastWay.l1 k' l (rd l 0) 1 0 = some r ∧ goodW l r := by
  obtain ⟨k', rfl⟩ : ∃ m, k' = m + 1 := ⟨k' - 1, by omega⟩
  have e0 : rd l 0 = l[0]'(by omega) := rd_nat l 0 (by omega)
  obtain ⟨r, g1, g2, g3⟩ := lw_loop l hl (l.length - 1) 1 k k' (rd l 0) 1 (by omega) (by omega) (fun i hi hi' => by
    have : i = 0 := by omega
    subst this
    rw [e0]; exact Int.le_refl _) (by rw [e0]; exact List.getElem_mem _) (by omega) (by omega) (fun _ => rfl) (by omega) (by omega)
  refine ⟨r, g1, ?_, g3⟩
  rw [spec_LeastWay.l1, if_pos (by omega), if_pos (by omega), if_neg (Int.lt_irrefl _), (IntWalk.wrap64_in ((0 : Int) + 1) (by omega)).trans (show (0 : Int) + 1 = ((1 : Nat) : Int) by omega)]
  exact g2

theorem lw_ok (l : List Int) (hl : l.length ≤ 2000000) : ∃ r : Int × Int, (∀ k, l.length + 60 ≤ k → impl_LeastWay.f k l = some r) ∧ (∀ k, l.length + 60 ≤ k → spec_LeastWay.f k l = some r) ∧ (r = (0, 0) ∨ goodW l r) := by
  by_cases h1 : 1 ≤ (l.length : Int) ∧ (l.length : Int) ≤ 8
  · by_cases h2 : okW l = true
    · obtain ⟨r, e1, e2, e3⟩ := lw_start l (by omega) (by omega) 20 20 (by omega) (by omega)
      refine ⟨r, ?_, ?_, Or.inr e3⟩
      · intro k hk
        obtain ⟨r', f1, f2, _⟩ := lw_start l (by omega) (by omega) k 20 (by omega) (by omega)
        rw [e2] at f2
        unfold impl_LeastWay.f
        rw [decide_eq_true h1, if_pos rfl, lwContains_val, Option.bind_some, h2, Bool.not_true, if_neg Bool.false_ne_true, if_pos (by omega), f1, ← f2]
      · intro k hk
        obtain ⟨k', g1, g2, g3⟩ := lwSpec_l0 l hl (by omega) l.length k 0 (by omega) (by omega)
        obtain ⟨r', f1, f2, _⟩ := lw_start l (by omega) (by omega) 20 k' (by omega) (by omega)
        rw [e1] at f1
        unfold spec_LeastWay.f
        rw [inRange_val, Option.bind_some, decide_eq_true h1, if_pos rfl]
        rw [List.drop_zero] at g3
        have g4 : spec_LeastWay.l0 k l 0 = _ := g3
        rw [g4, if_pos (show (l.all fun x => decide (1 ≤ x ∧ x ≤ 60)) = true from h2), f2, ← f1]
    · refine ⟨(0, 0), ?_, ?_, Or.inl rfl⟩
      · intro k hk
        unfold impl_LeastWay.f
        rw [decide_eq_true h1, if_pos rfl, lwContains_val, Option.bind_some, Bool.eq_false_iff.mpr h2, Bool.not_false, if_pos rfl]
      · intro k hk
        obtain ⟨k', g1, g2, g3⟩ := lwSpec_l0 l hl (by omega) l.length k 0 (by omega) (by omega)
        unfold spec_LeastWay.f
        rw [inRange_val, Option.bind_some, decide_eq_true h1, if_pos rfl]
        rw [List.drop_zero] at g3
        have g4 : spec_LeastWay.l0 k l 0 = _ := g3
        rw [g4, if_neg (show ¬ (l.all fun x => decide (1 ≤ x ∧ x ≤ 60)) = true from h2)]
  · refine ⟨(0, 0), ?_, ?_, Or.inl rfl⟩
    · intro k hk
      unfold impl_LeastWay.f
      rw [decide_eq_false h1, if_neg Bool.false_ne_true]
    · intro k hk
      unfold spec_LeastWay.f
      rw [inRange_val, Option.bind_some, decide_eq_false h1, if_neg Bool.false_ne_true]

theorem toIntS_l0 (l : List Int) (hl : l.length ≤ 2000000) : ∀ (d k i : Nat) (o : List Int), i + d = l.length → d < k → o.length = l.length → (∀ j, j < i → o[j]? = l[j]?) → laws_toIntS.l0 k l o (i : Int) = some l := by
  intro d
  induction d with
  | zero =>
    intro k i o hi hk ho hj
    obtain ⟨k, rfl⟩ : ∃ m, k = m + 1 := ⟨k - 1, by omega⟩
    simp only [laws_toIntS.l0]
    rw [if_neg (by omega)]
    congr 1
    apply List.ext_getElem?
    intro j
    by_cases h : j < l.length
    · exact hj j (by omega)
    · rw [List.getElem?_eq_none (by omega), List.getElem?_eq_none (by omega)]
  | succ d ih =>
    intro k i o hi hk ho hj
    obtain ⟨k, rfl⟩ : ∃ m, k = m + 1 := ⟨k - 1, by omega⟩
    simp only [laws_toIntS.l0]
    rw [if_pos (by omega), if_pos (by omega), if_pos (by omega), step_nat i (by omega), Int.toNat_natCast, rd_nat l i (by omega)]
    refine ih k (i + 1) _ (by omega) (by omega) (by rw [List.length_set]; exact ho) ?_
    intro j hji
    by_cases e : i = j
    · subst e
      rw [List.getElem?_set_self (by omega), List.getElem?_eq_getElem (by omega)]
    · rw [List.getElem?_set_ne e]
      exact hj j (by omega)

theorem toIntS_ok (l : List Int) (hl : l.length ≤ 2000000) (k : Nat) (hk : l.length < k) : laws_toIntS.f k l = some l := by
  unfold laws_toIntS.f
  rw [if_pos (by omega), if_pos (by rw [Int.toNat_natCast]; omega), Int.toNat_natCast]
  exact toIntS_l0 l hl l.length k 0 _ (by omega) hk (List.length_replicate ..) (fun j hj => absurd hj (Nat.not_lt_zero _))

theorem eqIntS_l0 (a b : List Int) (hab : a.length = b.length) (hl : a.length ≤ 2000000) : ∀ (d k i : Nat), i + d = a.length → d < k → laws_eqIntS.l0 k a b (i : Int) = some (decide (a.drop i = b.drop i)) := by
  intro d
  induction d with
  | zero =>
    intro k i hi hk
    obtain ⟨k, rfl⟩ : ∃ m, k = m + 1 := ⟨k - 1, by omega⟩
    simp only [laws_eqIntS.l0]
    rw [if_neg (by omega), List.drop_eq_nil_of_le (by omega), List.drop_eq_nil_of_le (by omega)]
    rfl
  | succ d ih =>
    intro k i hi hk
    obtain ⟨k, rfl⟩ : ∃ m, k = m + 1 := ⟨k - 1, by omega⟩
    simp only [laws_eqIntS.l0]
    rw [if_pos (by omega), if_pos (by omega), if_pos (by omega), step_nat i (by omega), rd_nat a i (by omega), rd_nat b i (by omega)]
    rw [List.drop_eq_getElem_cons (by omega : i < a.length), List.drop_eq_getElem_cons (by omega : i < b.length)]
    by_cases e : a[i]'(by omega) = b[i]'(by omega)
    · rw [if_pos e, ih k (i + 1) (by omega) (by omega), e]
      exact congrArg some (decide_eq_decide.mpr ⟨fun h => by rw [h], fun h => (List.cons.inj h).2⟩)
    · rw [if_neg e]
      exact congrArg some (decide_eq_false (fun h => e (List.cons.inj h).1)).symm

theorem eqIntS_ok (a b : List Int) (hl : a.length ≤ 2000000) (k : Nat) (hk : a.length < k) : laws_eqIntS.f k a b = some (decide (a = b)) := by
  unfold laws_eqIntS.f
  by_cases h : a.length = b.length
  · rw [if_pos (by omega)]
    exact eqIntS_l0 a b h hl a.length k 0 (by omega) hk
  · rw [if_neg (by omega), decide_eq_false (fun e => h (by rw [e]))]

theorem eqIntS_self (a : List Int) (hl : a.length ≤ 2000000) (k : Nat) (hk : a.length < k) : laws_eqIntS.f k a a = some true := by
  rw [eqIntS_ok a a hl k hk, decide_eq_true rfl]

theorem FnExactLeastWay : laws_FnExactLeastWay.Pure := by
  intro l _ _ _
  by_cases hc : (l.length : Int) > 1048576
  · exact ⟨0, by unfold laws_FnExactLeastWay.f; rw [if_pos hc]⟩
  · obtain ⟨r, hi, hs, _⟩ := lw_ok l (by omega)
    refine ⟨l.length + 100, ?_⟩
    unfold laws_FnExactLeastWay.f
    rw [if_neg hc, toIntS_ok l (by omega) _ (by omega), Option.bind_some, hs _ (by omega), Option.bind_some, Option.bind_some, hi _ (by omega), Option.bind_some, if_pos rfl, bne_self_eq_false]
    rw [show l.length + 100 = l.length + 99 + 1 from rfl, laws_FnExactLeastWay.j0, if_neg Bool.false_ne_true, toIntS_ok l (by omega) _ (by omega), Option.bind_some, eqIntS_self l (by omega) _ (by omega), Option.bind_some, if_pos rfl]

end Go.Proofs.Ytghnljpimkchhaa.Pure
