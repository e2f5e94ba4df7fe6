/- The program's CutLength returns what the reference's returns, in memory of its own: FnExactCutLength returns true for all ints. Conditions: none. -/
import Derived.Test.YtghnljpimkchhaaPFnExactCutLengthx3
namespace Go.Proofs.Ytghnljpimkchhaa.Pure
open Go.RowKit Go.Proofs.Ytghnljpimkchhaa.PFnExactCutLength Go.Proofs.YtghnljpimkchhaaW.PrintWords Go.Proofs.YtghnljpimkchhaaW.PrintLast
open Go
set_option linter.unusedVariables false
set_option linter.unusedSimpArgs false

theorem rd_nat (l : List Int) (i : Nat) (h : i < l.length) : rd l (i : Int) = l[i] := by
  unfold rd
  rw [Int.toNat_natCast, List.getD_eq_getElem?_getD, List.getElem?_eq_getElem h]
  rfl

theorem step_nat (i : Nat) (h : i < 4611686018427387904) : wrap64 ((i : Int) + 1) = ((i + 1 : Nat) : Int) := by
  rw [IntWalk.wrap64_in ((i : Int) + 1) (by omega)]
  rfl

theorem eqPiece_self (a b : Int) (c : Bool) : laws_eqPiece.f a b c a b c = some true := by
  unfold laws_eqPiece.f
  rw [if_pos rfl, if_pos rfl, bne_self_eq_false, if_neg Bool.false_ne_true]

theorem eqPieceS_l0 (a : List S47) (hl : a.length ≤ 2000000) : ∀ (d k i : Nat), i + d = a.length → d < k → laws_eqPieceS.l0 k a a (i : Int) = some true := by
  intro d
  induction d with
  | zero =>
    intro k i hi hk
    obtain ⟨k, rfl⟩ : ∃ m, k = m + 1 := ⟨k - 1, by omega⟩
    simp only [laws_eqPieceS.l0]
    rw [if_neg (by omega)]
  | succ d ih =>
    intro k i hi hk
    obtain ⟨k, rfl⟩ : ∃ m, k = m + 1 := ⟨k - 1, by omega⟩
    simp only [laws_eqPieceS.l0]
    rw [if_pos (by omega), if_pos (by omega), if_pos (by omega), eqPiece_self, Option.bind_some, if_pos rfl, step_nat i (by omega)]
    exact ih k (i + 1) (by omega) (by omega)

theorem eqPieceS_self (a : List S47) (hl : a.length ≤ 2000000) (k : Nat) (hk : a.length < k) : laws_eqPieceS.f k a a = some true := by
  unfold laws_eqPieceS.f
  rw [if_pos rfl]
  exact eqPieceS_l0 a hl a.length k 0 (by omega) hk

theorem rdP_nat (l : List S47) (i : Nat) (h : i < l.length) : rd_T47 l (i : Int) = l[i] := by
  unfold rd_T47
  rw [Int.toNat_natCast, List.getD_eq_getElem?_getD, List.getElem?_eq_getElem h]
  rfl

/-- The marks of a piece. -/
def mkP (m : Int) (j : Nat) : S47 := ⟨m + 3 * (j : Int), m + 3 * (j : Int) + 1, (Int.tmod (m + 3 * (j : Int) + 1 + 1) 3 == 0)⟩
def iotaP (m : Int) (n : Nat) : List S47 := (List.range n).map fun j : Nat => mkP m j

theorem iotaP_length (m : Int) (n : Nat) : (iotaP m n).length = n := by simp [iotaP]
theorem iotaP_get (m : Int) (n j : Nat) (h : j < (iotaP m n).length) : (iotaP m n)[j] = mkP m j := by simp [iotaP]
theorem iotaP_get? (m : Int) (n j : Nat) (h : j < n) : (iotaP m n)[j]? = some (mkP m j) := by
  rw [List.getElem?_eq_getElem (by rw [iotaP_length]; exact h), iotaP_get]

theorem rdP_set (l : List S47) (i : Nat) (v : S47) (h : i < l.length) : rd_T47 (l.set i v) (i : Int) = v := by
  rw [rdP_nat _ i (by rw [List.length_set]; exact h), List.getElem_set_self]

theorem markPieceS_l0 (n : Nat) (m : Int) (hn : n ≤ 2000000) (hm : 0 ≤ m) (hm' : m ≤ 4000000) : ∀ (d k i : Nat) (o : List S47), i + d = n → d < k → o.length = n → (∀ j, j < i → o[j]? = (iotaP m n)[j]?) → laws_markPieceS.l0 k o (m + 3 * (i : Int)) (i : Int) = some (m + 3 * (n : Int), iotaP m n) := by
  intro d
  induction d with
  | zero =>
    intro k i o hi hk ho hj
    obtain ⟨k, rfl⟩ : ∃ m, k = m + 1 := ⟨k - 1, by omega⟩
    simp only [laws_markPieceS.l0]
    rw [if_neg (by omega)]
    have e : i = n := by omega
    subst e
    congr 2
    apply List.ext_getElem?
    intro j
    by_cases h : j < i
    · exact hj j h
    · rw [List.getElem?_eq_none (by omega), List.getElem?_eq_none (by rw [iotaP_length]; omega)]
  | succ d ih =>
    intro k i o hi hk ho hj
    obtain ⟨k, rfl⟩ : ∃ m, k = m + 1 := ⟨k - 1, by omega⟩
    simp only [laws_markPieceS.l0]
    rw [if_pos (by omega), if_pos (by omega), Option.bind_some, Option.bind_some, Int.toNat_natCast]
    rw [rdP_set o i _ (by omega), rdP_set _ i _ (by rw [List.length_set]; omega), List.set_set, List.set_set]
    rw [step_nat i (by omega), IntWalk.wrap64_in (m + 3 * (i : Int) + 1) (by omega), IntWalk.wrap64_in (m + 3 * (i : Int) + 1 + 1) (by omega), (IntWalk.wrap64_in (m + 3 * (i : Int) + 1 + 1 + 1) (by omega)).trans (show m + 3 * (i : Int) + 1 + 1 + 1 = m + 3 * ((i + 1 : Nat) : Int) by omega)]
    refine ih k (i + 1) _ (by omega) (by omega) (by rw [List.length_set]; exact ho) ?_
    intro j hji
    by_cases e : i = j
    · subst e
      rw [List.getElem?_set_self (by omega), iotaP_get? m n i (by omega)]
      rfl
    · rw [List.getElem?_set_ne e]
      exact hj j (by omega)

theorem markPieceS_ok (l : List S47) (m : Int) (hl : l.length ≤ 2000000) (hm : 0 ≤ m) (hm' : m ≤ 4000000) (k : Nat) (hk : l.length < k) : laws_markPieceS.f k l m = some (m + 3 * (l.length : Int), iotaP m l.length) := by
  unfold laws_markPieceS.f
  have h := markPieceS_l0 l.length m hl hm hm' l.length k 0 l (by omega) hk rfl (fun j hj => absurd hj (Nat.not_lt_zero _))
  rw [show m + 3 * ((0 : Nat) : Int) = m by omega] at h
  exact h

theorem heldPieceS_l0 (n : Nat) (m : Int) (hn : n ≤ 2000000) (hm : 0 ≤ m) (hm' : m ≤ 4000000) : ∀ (d k i : Nat), i + d = n → d < k → laws_heldPieceS.l0 k (iotaP m n) (m + 3 * (i : Int)) (i : Int) = some (m + 3 * (n : Int)) := by
  intro d
  induction d with
  | zero =>
    intro k i hi hk
    obtain ⟨k, rfl⟩ : ∃ m, k = m + 1 := ⟨k - 1, by omega⟩
    simp only [laws_heldPieceS.l0]
    rw [if_neg (by rw [iotaP_length]; omega)]
    have e : i = n := by omega
    rw [e]
  | succ d ih =>
    intro k i hi hk
    obtain ⟨k, rfl⟩ : ∃ m, k = m + 1 := ⟨k - 1, by omega⟩
    simp only [laws_heldPieceS.l0]
    rw [if_pos (by rw [iotaP_length]; omega), if_pos (by omega), rdP_nat _ i (by rw [iotaP_length]; omega), iotaP_get]
    rw [if_pos (show (mkP m i).f0 = m + 3 * (i : Int) from rfl), IntWalk.wrap64_in (m + 3 * (i : Int) + 1) (by omega), if_pos (show (mkP m i).f1 = m + 3 * (i : Int) + 1 from rfl), IntWalk.wrap64_in (m + 3 * (i : Int) + 1 + 1) (by omega)]
    rw [show (mkP m i).f2 = (Int.tmod (m + 3 * (i : Int) + 1 + 1) 3 == 0) from rfl, bne_self_eq_false, if_neg Bool.false_ne_true]
    rw [step_nat i (by omega), (IntWalk.wrap64_in (m + 3 * (i : Int) + 1 + 1 + 1) (by omega)).trans (show m + 3 * (i : Int) + 1 + 1 + 1 = m + 3 * ((i + 1 : Nat) : Int) by omega)]
    exact ih k (i + 1) (by omega) (by omega)

theorem heldPieceS_ok (n : Nat) (m : Int) (hn : n ≤ 2000000) (hm : 0 ≤ m) (hm' : m ≤ 4000000) (k : Nat) (hk : n < k) : laws_heldPieceS.f k (iotaP m n) m = some (m + 3 * (n : Int)) := by
  unfold laws_heldPieceS.f
  have h := heldPieceS_l0 n m hn hm hm' n k 0 (by omega) hk
  rw [show m + 3 * ((0 : Nat) : Int) = m by omega] at h
  exact h

theorem within_val (x a b : Int) : impl_within.f x a b = some (decide (a ≤ x ∧ x ≤ b)) := by
  unfold impl_within.f
  by_cases h : a ≤ x
  · rw [if_pos h]; simp [h]
  · rw [if_neg h]; simp [h]

theorem inRange_val (x a b : Int) : spec_inRange.f x a b = some (decide (a ≤ x ∧ x ≤ b)) := by
  unfold spec_inRange.f
  by_cases h : a ≤ x
  · rw [if_pos h]; simp [h]
  · rw [if_neg h]; simp [h]

theorem cut_part (room unit : Int) (h1 : 1 ≤ unit) (h2 : unit ≤ 8) (h3 : unit ≤ room) (h4 : room ≤ 60) :
    ∃ p, wrap64 ((wrap64 (Int.tdiv room unit)) * unit) = p ∧ 1 ≤ p ∧ p ≤ room := by
  have e : Int.tdiv room unit = room / unit := Int.tdiv_eq_ediv_of_nonneg (by omega)
  have d0 : 0 ≤ room / unit := Int.ediv_nonneg (by omega) (by omega)
  have d1 : 1 ≤ room / unit := (Int.le_ediv_iff_mul_le (by omega)).2 (by omega)
  have d2 : room / unit ≤ room := Int.ediv_le_self _ (by omega)
  have m1 : room / unit * unit ≤ room := Int.ediv_mul_le _ (by omega)
  have m0 : 1 * 1 ≤ room / unit * unit := Int.mul_le_mul d1 h1 (by omega) (by omega)
  rw [e, IntWalk.wrap64_in (room / unit) (by omega)]
  generalize room / unit * unit = p at m0 m1
  exact ⟨p, IntWalk.wrap64_in p (by omega), by omega, by omega⟩

theorem cut_loop (n room unit : Int) (hn : 1 ≤ n) (hn' : n ≤ 60) (h1 : 1 ≤ unit) (h2 : unit ≤ 8) (h3 : unit ≤ room) (h4 : room ≤ 60) :
    ∀ (d k k' : Nat) (at' : Int) (o : List S47), 0 ≤ at' → at' < n → n - at' ≤ d → (o.length : Int) ≤ at' → d + 1 < k → d + 2 < k' →
    ∃ r, impl_CutLength.l0 k n room unit o at' = some r ∧ spec_CutLength.l0 k' n room unit o at' = some r ∧ r.1.length ≤ 20 := by
  obtain ⟨p, hp, hp1, hp2⟩ := cut_part room unit h1 h2 h3 h4
  intro d
  induction d with
  | zero => intro k k' at' o h5 h6 h7; omega
  | succ d ih =>
    intro k k' at' o h5 h6 h7 h8 hk hk'
    obtain ⟨k, rfl⟩ : ∃ m, k = m + 1 := ⟨k - 1, by omega⟩
    obtain ⟨k', rfl⟩ : ∃ m, k' = m + 1 := ⟨k' - 1, by omega⟩
    have hw : wrap64 (n - at') = n - at' := IntWalk.wrap64_in _ (by omega)
    rw [impl_CutLength.l0, spec_CutLength.l0, hp, hw, if_pos h6]
    by_cases h9 : n - at' > room
    · have hq : wrap64 (at' + p) = at' + p := IntWalk.wrap64_in _ (by omega)
      rw [if_pos h9, if_pos h9, if_neg (show ¬ unit = 0 by omega), if_neg (show ¬ unit = 0 by omega), if_pos (show o.length < 5864062014805 by omega), if_pos (show o.length < 5864062014805 by omega), hq, decide_eq_true (show at' + p < n by omega)]
      refine ih k k' (at' + p) _ (by omega) (by omega) (by omega) ?_ (by omega) (by omega)
      rw [List.length_append]; simp only [List.length_cons, List.length_nil]; omega
    · have hq : wrap64 (at' + (n - at')) = n := (IntWalk.wrap64_in _ (by omega)).trans (by omega)
      rw [if_neg h9, if_neg h9, if_pos (show o.length < 5864062014805 by omega), if_pos (show o.length < 5864062014805 by omega), Option.bind_some, hq, decide_eq_false (show ¬ n < n by omega)]
      obtain ⟨k', rfl⟩ : ∃ m, k' = m + 1 := ⟨k' - 1, by omega⟩
      rw [spec_CutLength.l0, if_neg (show ¬ n < n by omega)]
      generalize o ++ [(⟨at', n - at', false⟩ : S47)] = y
      by_cases h10 : (y.length : Int) > 20
      · rw [if_pos h10]; exact ⟨_, rfl, rfl, by simp⟩
      · rw [if_neg h10]; exact ⟨_, rfl, rfl, by show y.length ≤ 20; omega⟩

theorem cut_ok (a b c : Int) : ∃ r, (∀ k, 100 ≤ k → impl_CutLength.f k a b c = some r) ∧ (∀ k, 100 ≤ k → spec_CutLength.f k a b c = some r) ∧ r.1.length ≤ 20 := by
  by_cases h : (1 ≤ a ∧ a ≤ 60) ∧ (1 ≤ c ∧ c ≤ 8) ∧ (c ≤ b ∧ b ≤ 60)
  · have hr : ∀ k k', 70 ≤ k → 70 ≤ k' → ∃ r, impl_CutLength.l0 k a b c [] 0 = some r ∧ spec_CutLength.l0 k' a b c [] 0 = some r ∧ r.1.length ≤ 20 := by
      intro k k' hk hk'
      exact cut_loop a b c h.1.1 h.1.2 h.2.1.1 h.2.1.2 h.2.2.1 h.2.2.2 60 k k' 0 [] (by omega) (by omega) (by omega) (by simp) (by omega) (by omega)
    obtain ⟨r, e1, e2, e3⟩ := hr 70 70 (by omega) (by omega)
    refine ⟨r, ?_, ?_, e3⟩
    · intro k hk
      obtain ⟨r', f1, f2, f3⟩ := hr (k - 1) 70 (by omega) (by omega)
      rw [e2] at f2
      obtain ⟨k, rfl⟩ : ∃ m, k = m + 1 := ⟨k - 1, by omega⟩
      unfold impl_CutLength.f
      rw [within_val, within_val, within_val, Option.bind_some, decide_eq_true h.1, if_pos rfl, Option.bind_some, decide_eq_true h.2.1, if_pos rfl, Option.bind_some, decide_eq_true h.2.2]
      simp only [impl_CutLength.j0, Bool.not_true, Bool.false_eq_true, if_false]
      rw [Nat.add_sub_cancel] at f1
      rw [f1, ← f2]
    · intro k hk
      obtain ⟨r', f1, f2, f3⟩ := hr 70 (k - 1) (by omega) (by omega)
      rw [e1] at f1
      obtain ⟨k, rfl⟩ : ∃ m, k = m + 1 := ⟨k - 1, by omega⟩
      unfold spec_CutLength.f
      rw [inRange_val, inRange_val, inRange_val, Option.bind_some, decide_eq_true h.1, if_pos rfl, Option.bind_some, decide_eq_true h.2.1, if_pos rfl, Option.bind_some, decide_eq_true h.2.2]
      simp only [spec_CutLength.j0, Bool.not_true, Bool.false_eq_true, if_false]
      rw [Nat.add_sub_cancel] at f2
      rw [f2, ← f1]
  · refine ⟨([], false), ?_, ?_, by simp⟩
    · intro k hk
      obtain ⟨k, rfl⟩ : ∃ m, k = m + 1 := ⟨k - 1, by omega⟩
      unfold impl_CutLength.f
      rw [within_val, within_val, within_val]
      simp only [Option.bind_some]
      by_cases q1 : 1 ≤ a ∧ a ≤ 60
      · rw [decide_eq_true q1, if_pos rfl]
        by_cases q2 : 1 ≤ c ∧ c ≤ 8
        · rw [decide_eq_true q2, if_pos rfl, decide_eq_false (fun q3 => h ⟨q1, q2, q3⟩)]
          simp only [impl_CutLength.j0, Bool.not_false, if_true]
        · rw [decide_eq_false q2, if_neg Bool.false_ne_true]
          simp only [impl_CutLength.j0, if_true]
      · rw [decide_eq_false q1, if_neg Bool.false_ne_true]
        simp only [impl_CutLength.j0, if_true]
    · intro k hk
      obtain ⟨k, rfl⟩ : ∃ m, k = m + 1 := ⟨k - 1, by omega⟩
      unfold spec_CutLength.f
      rw [inRange_val, inRange_val, inRange_val]
      simp only [Option.bind_some]
      by_cases q1 : 1 ≤ a ∧ a ≤ 60
      · rw [decide_eq_true q1, if_pos rfl]
        by_cases q2 : 1 ≤ c ∧ c ≤ 8
        · rw [decide_eq_true q2, if_pos rfl, decide_eq_false (fun q3 => h ⟨q1, q2, q3⟩)]
          simp only [spec_CutLength.j0, Bool.not_false, if_true]
        · rw [decide_eq_false q2, if_neg Bool.false_ne_true]
          simp only [spec_CutLength.j0, if_true]
      · rw [decide_eq_false q1, if_neg Bool.false_ne_true]
        simp only [spec_CutLength.j0, if_true]


theorem FnExactCutLength : laws_FnExactCutLength.Pure := by
  intro a b c _ _ _
  obtain ⟨r, hi, hs, hr⟩ := cut_ok a b c
  have hm2 : ¬ (1 + 3 * (r.1.length : Int) < 0) := by omega
  refine ⟨200, ?_⟩
  unfold laws_FnExactCutLength.f
  simp (disch := omega) only [hi, hs, Option.bind_some, if_true, eqPieceS_self, bne_self_eq_false]
  simp (disch := omega) only [laws_FnExactCutLength.j0, Bool.false_eq_true, if_false, hi, Option.bind_some, if_true, eqPieceS_self, bne_self_eq_false, markPieceS_ok, heldPieceS_ok, hm2]
  simp (disch := omega) only [laws_FnExactCutLength.j1, Bool.false_eq_true, if_false, Option.bind_some, heldPieceS_ok, hm2, if_true]

end Go.Proofs.Ytghnljpimkchhaa.Pure
