/- The program's HolesOf tells what the reference's tells, leaves its argument as it was, and shares no memory: FnExactHolesOf returns true for every list of pieces and every length. Conditions: none. -/
import Derived.Test.YtghnljpimkchhaaHFnExactHolesOfx4
namespace Go.Proofs.Ytghnljpimkchhaa.Pure
open Go.RowKit Go.Proofs.Ytghnljpimkchhaa.HFnExactHolesOf Go.Proofs.YtghnljpimkchhaaW.PrintWords Go.Proofs.YtghnljpimkchhaaW.PrintLast
open Go
set_option linter.unusedVariables false
set_option linter.unusedSimpArgs false

theorem rd_nat (l : List Int) (i : Nat) (h : i < l.length) : rd l (i : Int) = l[i] := by
  unfold rd
  rw [Int.toNat_natCast, List.getD_eq_getElem?_getD, List.getElem?_eq_getElem h]
  rfl

theorem step_nat (i : Nat) (h : i < 4611686018427387904) : wrap64 ((i : Int) + 1) = ((i + 1 : Nat) : Int) := by
  rw [IntWalk.wrap64_in ((i : Int) + 1) (by omega)]
  rfl

theorem within_val (x a b : Int) : impl_within.f x a b = some (decide (a ≤ x ∧ x ≤ b)) := by
  unfold impl_within.f
  by_cases h : a ≤ x
  · rw [if_pos h]; simp [h]
  · rw [if_neg h]; simp [h]

theorem inRange_val (x a b : Int) : spec_inRange.f x a b = some (decide (a ≤ x ∧ x ≤ b)) := by
  unfold spec_inRange.f
  by_cases h : a ≤ x
  · rw [if_pos h]; simp [h]
  · rw [if_neg h]; simp [h]

def okP1 (x : S47) : Bool := decide (0 ≤ x.f0 ∧ x.f0 ≤ 59) && decide (1 ≤ x.f1 ∧ x.f1 ≤ wrap64 (60 - x.f0))
def okP (l : List S47) : Bool := l.all okP1 && decide (l.length ≤ 20)

theorem vp1_val (x : S47) : impl_ValidPieces_1.f x.f0 x.f1 x.f2 = some (!(okP1 x)) := by
  unfold impl_ValidPieces_1.f okP1
  rw [within_val, Option.bind_some, within_val, Option.bind_some]
  by_cases h : 0 ≤ x.f0 ∧ x.f0 ≤ 59
  · rw [decide_eq_true h, if_pos rfl, Bool.true_and]
  · rw [decide_eq_false h, if_neg Bool.false_ne_true, Bool.false_and, Bool.not_false]

theorem implVP_val (l : List S47) : impl_ValidPieces.f l = some (okP l) := by
  unfold impl_ValidPieces.f hand_Contains_ValidPieces.f
  have hany : (l.any fun x => (impl_ValidPieces_1.f x.f0 x.f1 x.f2).getD false) = !(l.all okP1) := by
    induction l with
    | nil => rfl
    | cons x l ih =>
      rw [List.any_cons, List.all_cons, ih, vp1_val, Option.getD_some]
      show (!(okP1 x) || !(l.all okP1)) = !(okP1 x && l.all okP1)
      rw [Bool.not_and]
  rw [hany, Option.bind_some, Bool.not_not]
  unfold okP
  by_cases h : l.length ≤ 20
  · rw [if_pos (by omega), decide_eq_true h, Bool.and_true]
  · rw [if_neg (by omega), decide_eq_false h, Bool.and_false]

theorem rdP47_nat (l : List S47) (i : Nat) (h : i < l.length) : rd_T47 l (i : Int) = l[i] := by
  unfold rd_T47
  rw [Int.toNat_natCast, List.getD_eq_getElem?_getD, List.getElem?_eq_getElem h]
  rfl

theorem specVP_l0 (l : List S47) (hl : l.length ≤ 2000000) : ∀ (d k i : Nat), i + d = l.length → d < k → spec_validPieces.l0 k l (i : Int) = some ((l.drop i).all okP1 && decide (l.length ≤ 20)) := by
  intro d
  induction d with
  | zero =>
    intro k i hi hk
    obtain ⟨k, rfl⟩ : ∃ m, k = m + 1 := ⟨k - 1, by omega⟩
    rw [spec_validPieces.l0, if_neg (by omega), List.drop_eq_nil_of_le (by omega), List.all_nil, Bool.true_and]
    exact congrArg some (decide_eq_decide.mpr (by omega))
  | succ d ih =>
    intro k i hi hk
    obtain ⟨k, rfl⟩ : ∃ m, k = m + 1 := ⟨k - 1, by omega⟩
    rw [spec_validPieces.l0, if_pos (by omega), if_pos (by omega), rdP47_nat l i (by omega), inRange_val, Option.bind_some, inRange_val, Option.bind_some, step_nat i (by omega), List.drop_eq_getElem_cons (by omega : i < l.length), List.all_cons]
    generalize l[i]'(by omega) = x
    unfold okP1
    by_cases h1 : 0 ≤ x.f0 ∧ x.f0 ≤ 59
    · rw [decide_eq_true h1, if_pos rfl, Bool.true_and]
      by_cases h2 : 1 ≤ x.f1 ∧ x.f1 ≤ wrap64 (60 - x.f0)
      · rw [decide_eq_true h2, if_pos rfl, Bool.true_and, ih k (i + 1) (by omega) (by omega)]
        rfl
      · rw [decide_eq_false h2, if_neg Bool.false_ne_true, Bool.false_and, Bool.false_and]
    · rw [decide_eq_false h1, if_neg Bool.false_ne_true, Bool.false_and, Bool.false_and, Bool.false_and]

theorem specVP_ok (l : List S47) (hl : l.length ≤ 2000000) (k : Nat) (hk : l.length < k) : spec_validPieces.f k l = some (okP l) := by
  unfold spec_validPieces.f
  have h := specVP_l0 l hl l.length k 0 (by omega) hk
  rw [List.drop_zero] at h
  exact h

def pcN (q : Nat × Nat) : S47 := ⟨(q.1 : Int), (q.2 : Int), false⟩
def pcM (n : Int) (q : Nat × Nat) : S47 := ⟨(q.1 : Int), (q.2 : Int), decide ((q.1 : Int) + (q.2 : Int) < n)⟩
/-- The rows of numbers that a test lets in, from place i on, z of which are open. -/
def canon (h : Nat → Bool) : Nat → Nat → Nat → List (Nat × Nat)
  | 0, i, z => if z = 0 then [] else [(i - z, z)]
  | d + 1, i, z => if h i = true then canon h d (i + 1) (z + 1) else (if z = 0 then canon h d (i + 1) 0 else (i - z, z) :: canon h d (i + 1) 0)
def openN (i z : Nat) : List S47 := if z = 0 then [] else [pcN (i - z, z)]

theorem rdP_last (fin : List S47) (a : S47) : rd_T47 (fin ++ [a]) (fin.length : Int) = a := by
  rw [rdP47_nat _ _ (by rw [List.length_append, List.length_singleton]; omega), List.getElem_append_right (by omega)]
  simp

theorem rows_l0 (p : Int → Bool) (n : Nat) (hn : n ≤ 60) : ∀ (d k i z : Nat) (fin : List S47), i + d = n → d < k → z ≤ i → fin.length ≤ i → (∀ x ∈ fin, 0 ≤ x.f0 + x.f1 ∧ x.f0 + x.f1 < (i : Int)) →
    impl_rows.l0 p k (fin ++ openN i z) (n : Int) (i : Int) = some (fin ++ (canon (fun j => p (j : Int)) d i z).map pcN) := by
  intro d
  induction d with
  | zero =>
    intro k i z fin hi hk hz hl hf
    obtain ⟨k, rfl⟩ : ∃ m, k = m + 1 := ⟨k - 1, by omega⟩
    rw [impl_rows.l0, if_neg (show ¬ (i : Int) < (n : Int) by omega), canon, openN]
    by_cases h : z = 0
    · rw [if_pos h, if_pos h]; rfl
    · rw [if_neg h, if_neg h]; rfl
  | succ d ih =>
    intro k i z fin hi hk hz hl hf
    obtain ⟨k, rfl⟩ : ∃ m, k = m + 1 := ⟨k - 1, by omega⟩
    have hf' : ∀ x ∈ fin, 0 ≤ x.f0 + x.f1 ∧ x.f0 + x.f1 < ((i + 1 : Nat) : Int) := fun x hx => ⟨(hf x hx).1, by have := (hf x hx).2; omega⟩
    rw [impl_rows.l0, if_pos (show (i : Int) < (n : Int) by omega), hand_in.f, Option.bind_some, canon, step_nat i (by omega)]
    cases hp : p (i : Int) with
    | false =>
      rw [if_neg Bool.false_ne_true, if_neg Bool.false_ne_true]
      by_cases h : z = 0
      · rw [if_pos h]
        subst h
        exact ih k (i + 1) 0 fin (by omega) (by omega) (by omega) (by omega) hf'
      · rw [if_neg h]
        have h2 := ih k (i + 1) 0 (fin ++ [pcN (i - z, z)]) (by omega) (by omega) (by omega) (by rw [List.length_append, List.length_singleton]; omega) (by
          intro x hx
          rcases List.mem_append.1 hx with hx | hx
          · exact hf' x hx
          · rw [List.mem_singleton.1 hx]
            show 0 ≤ ((i - z : Nat) : Int) + (z : Int) ∧ ((i - z : Nat) : Int) + (z : Int) < ((i + 1 : Nat) : Int)
            omega)
        rw [openN, if_pos rfl, List.append_nil] at h2
        rw [openN, if_neg h, h2, List.map_cons, List.append_assoc]
        rfl
    | true =>
      rw [if_pos rfl, if_pos rfl]
      by_cases h : z = 0
      · subst h
        rw [openN, if_pos rfl, List.append_nil]
        have h2 := ih k (i + 1) (0 + 1) fin (by omega) (by omega) (by omega) (by omega) hf'
        rw [openN, if_neg (by omega)] at h2
        have e : (⟨(i : Int), 1, false⟩ : S47) = pcN (i + 1 - (0 + 1), 0 + 1) := by
          unfold pcN
          rw [show i + 1 - (0 + 1) = i by omega]
          rfl
        rw [← e] at h2
        have hw : wrap64 ((fin.length : Int) - 1) = (fin.length : Int) - 1 := IntWalk.wrap64_in _ (by omega)
        rw [hw]
        by_cases h0 : (fin.length : Int) - 1 ≥ 0
        · have hm : rd_T47 fin ((fin.length : Int) - 1) ∈ fin := by
            rw [show (fin.length : Int) - 1 = ((fin.length - 1 : Nat) : Int) by omega, rdP47_nat _ _ (by omega)]
            exact List.getElem_mem _
          have hx := hf _ hm
          rw [if_pos h0, if_pos (show (0 : Int) ≤ (fin.length : Int) - 1 by omega), if_pos (show (fin.length : Int) - 1 < (fin.length : Int) by omega), IntWalk.wrap64_in (_ + _) (by omega), if_neg (by omega), if_pos (show fin.length < 5864062014805 by omega)]
          exact h2
        · rw [if_neg h0, if_pos (show fin.length < 5864062014805 by omega)]
          exact h2
      · have hlen : ((fin ++ openN i z).length : Int) = (fin.length : Int) + 1 := by
          rw [openN, if_neg h, List.length_append, List.length_singleton]; omega
        have hw : wrap64 (((fin ++ openN i z).length : Int) - 1) = (fin.length : Int) := by
          rw [hlen, IntWalk.wrap64_in _ (by omega)]; omega
        have hr : rd_T47 (fin ++ openN i z) (fin.length : Int) = pcN (i - z, z) := by
          rw [openN, if_neg h]; exact rdP_last fin _
        have he : wrap64 ((pcN (i - z, z)).f0 + (pcN (i - z, z)).f1) = (i : Int) := by
          show wrap64 (((i - z : Nat) : Int) + (z : Int)) = (i : Int)
          rw [IntWalk.wrap64_in _ (by omega)]; omega
        rw [hw, hr, he, if_pos (show (fin.length : Int) ≥ 0 by omega), if_pos (show (0 : Int) ≤ (fin.length : Int) by omega), if_pos (show (fin.length : Int) < ((fin ++ openN i z).length : Int) by omega), if_pos rfl]
        have h2 := ih k (i + 1) (z + 1) fin (by omega) (by omega) (by omega) (by omega) hf'
        rw [openN, if_neg (by omega)] at h2
        have e : (⟨(pcN (i - z, z)).f0, wrap64 ((pcN (i - z, z)).f1 + 1), (pcN (i - z, z)).f2⟩ : S47) = pcN (i + 1 - (z + 1), z + 1) := by
          show (⟨((i - z : Nat) : Int), wrap64 ((z : Int) + 1), false⟩ : S47) = _
          unfold pcN
          rw [step_nat z (by omega), show i + 1 - (z + 1) = i - z by omega]
        rw [e, Int.toNat_natCast]
        have es : (fin ++ openN i z).set fin.length (pcN (i + 1 - (z + 1), z + 1)) = fin ++ [pcN (i + 1 - (z + 1), z + 1)] := by
          rw [openN, if_neg h, List.set_append_right _ _ (Nat.le_refl _), Nat.sub_self]
          rfl
        rw [es]
        exact h2

theorem rows_ok (p : Int → Bool) (n : Nat) (hn : n ≤ 60) (k : Nat) (hk : n < k) : impl_rows.f p k (n : Int) = some ((canon (fun j => p (j : Int)) n 0 0).map pcN) := by
  have h := rows_l0 p n hn n k 0 0 [] (by omega) hk (by omega) (by simp) (by simp)
  rw [openN, if_pos rfl] at h
  exact h

theorem canon_bound (h : Nat → Bool) : ∀ (d i z : Nat), z ≤ i → ∀ q ∈ canon h d i z, i - z ≤ q.1 ∧ 1 ≤ q.2 ∧ q.1 + q.2 ≤ i + d := by
  intro d
  induction d with
  | zero =>
    intro i z hz q hq
    rw [canon] at hq
    by_cases h0 : z = 0
    · rw [if_pos h0] at hq; cases hq
    · rw [if_neg h0] at hq
      rw [List.mem_singleton.1 hq]
      show i - z ≤ i - z ∧ 1 ≤ z ∧ i - z + z ≤ i + 0
      omega
  | succ d ih =>
    intro i z hz q hq
    rw [canon] at hq
    by_cases h1 : h i = true
    · rw [if_pos h1] at hq
      have := ih (i + 1) (z + 1) (by omega) q hq
      omega
    · rw [if_neg h1] at hq
      by_cases h0 : z = 0
      · rw [if_pos h0] at hq
        have := ih (i + 1) 0 (by omega) q hq
        omega
      · rw [if_neg h0] at hq
        rcases List.mem_cons.1 hq with rfl | hq
        · show i - z ≤ i - z ∧ 1 ≤ z ∧ i - z + z ≤ i + (d + 1)
          omega
        · have := ih (i + 1) 0 (by omega) q hq
          omega

theorem canon_len (h : Nat → Bool) : ∀ (d i z : Nat), (canon h d i z).length ≤ d + 1 := by
  intro d
  induction d with
  | zero => intro i z; rw [canon]; by_cases h0 : z = 0 <;> simp [h0]
  | succ d ih =>
    intro i z
    rw [canon]
    by_cases h1 : h i = true
    · rw [if_pos h1]; have := ih (i + 1) (z + 1); omega
    · rw [if_neg h1]
      by_cases h0 : z = 0
      · rw [if_pos h0]; have := ih (i + 1) 0; omega
      · rw [if_neg h0, List.length_cons]; have := ih (i + 1) 0; omega

/-- Setting More, piece by piece. -/
def setM (n : Int) (x : S47) : S47 := ⟨x.f0, x.f1, decide (wrap64 (x.f0 + x.f1) < n)⟩
theorem setMore_l0 (n : Int) (l : List S47) (hl : l.length ≤ 2000000) : ∀ (d k i : Nat) (o : List S47), i + d = l.length → d < k → o.length = l.length → (∀ j, j < i → o[j]? = (l.map (setM n))[j]?) → (∀ j, i ≤ j → o[j]? = l[j]?) → impl_HolesOf.l0 k n o (l.length : Int) (i : Int) = some (l.map (setM n)) := by
  intro d
  induction d with
  | zero =>
    intro k i o hi hk ho hj hj2
    obtain ⟨k, rfl⟩ : ∃ m, k = m + 1 := ⟨k - 1, by omega⟩
    rw [impl_HolesOf.l0, if_neg (by omega)]
    congr 1
    apply List.ext_getElem?
    intro j
    by_cases h : j < l.length
    · exact hj j (by omega)
    · rw [List.getElem?_eq_none (by omega), List.getElem?_eq_none (by rw [List.length_map]; omega)]
  | succ d ih =>
    intro k i o hi hk ho hj hj2
    obtain ⟨k, rfl⟩ : ∃ m, k = m + 1 := ⟨k - 1, by omega⟩
    have hio : i < o.length := by omega
    have hil : i < l.length := by omega
    have hr : rd_T47 o (i : Int) = l[i] := by
      rw [rdP47_nat o i hio]
      have := hj2 i (by omega)
      rw [List.getElem?_eq_getElem hio, List.getElem?_eq_getElem hil] at this
      exact Option.some.inj this
    rw [impl_HolesOf.l0, if_pos (show (i : Int) < (l.length : Int) by omega), if_pos (by omega), if_pos (by omega), hr, step_nat i (by omega), Int.toNat_natCast]
    refine ih k (i + 1) _ (by omega) (by omega) (by rw [List.length_set]; exact ho) ?_ ?_
    · intro j hji
      by_cases e : i = j
      · subst e
        rw [List.getElem?_set_self hio, List.getElem?_map, List.getElem?_eq_getElem hil]
        rfl
      · rw [List.getElem?_set_ne e]
        exact hj j (by omega)
    · intro j hji
      rw [List.getElem?_set_ne (by omega)]
      exact hj2 j (by omega)

def holeH (l : List S47) (j : Nat) : Bool := !(l.any (hand_covP (j : Int)))
def holesM (l : List S47) (n : Int) : List S47 := if okP l = true ∧ 1 ≤ n ∧ n ≤ 60 then (canon (holeH l) n.toNat 0 0).map (pcM n) else []

theorem implHoles_ok (l : List S47) (n : Int) (k : Nat) (hk : 100 ≤ k) : impl_HolesOf.f k l n = some (holesM l n) := by
  obtain ⟨k, rfl⟩ : ∃ m, k = m + 1 := ⟨k - 1, by omega⟩
  unfold impl_HolesOf.f holesM
  rw [implVP_val, Option.bind_some]
  by_cases h1 : okP l = true
  · rw [if_pos h1, within_val, Option.bind_some]
    by_cases h2 : 1 ≤ n ∧ n ≤ 60
    · rw [decide_eq_true h2, if_pos ⟨h1, h2⟩, Bool.not_true, impl_HolesOf.j0, if_neg Bool.false_ne_true]
      obtain ⟨m, rfl⟩ := Int.eq_ofNat_of_zero_le (show 0 ≤ n by omega)
      rw [Int.toNat_natCast]
      have hr := rows_ok (fun i => !(l.any (hand_covP i))) m (by omega) k (by omega)
      unfold hand_rows_Holes.f
      rw [hr, Option.bind_some]
      have hb := canon_bound (holeH l) m 0 0 (by omega)
      have hl := canon_len (holeH l) m 0 0
      show impl_HolesOf.l0 k (m : Int) ((canon (holeH l) m 0 0).map pcN) (((canon (holeH l) m 0 0).map pcN).length : Int) 0 = _
      have hs := setMore_l0 (m : Int) ((canon (holeH l) m 0 0).map pcN) (by rw [List.length_map]; omega) ((canon (holeH l) m 0 0).map pcN).length k 0 _ (by omega) (by rw [List.length_map]; omega) rfl (fun j hj => absurd hj (Nat.not_lt_zero _)) (fun j _ => rfl)
      rw [show ((0 : Nat) : Int) = 0 from rfl] at hs
      rw [hs, List.map_map]
      congr 1
      apply List.map_congr_left
      intro q hq
      have hq' := hb q hq
      show setM (m : Int) (pcN q) = pcM (m : Int) q
      unfold setM pcM pcN
      show (⟨(q.1 : Int), (q.2 : Int), decide (wrap64 ((q.1 : Int) + (q.2 : Int)) < (m : Int))⟩ : S47) = _
      rw [IntWalk.wrap64_in _ (by omega)]
    · rw [decide_eq_false h2, if_neg (fun h => h2 h.2), Bool.not_false, impl_HolesOf.j0, if_pos rfl]
  · rw [if_neg h1, if_neg (fun h => h1 h.1), impl_HolesOf.j0, if_pos rfl]

theorem rdOf_nat (l : List Bool) (i : Nat) (h : i < l.length) : rdOf false l (i : Int) = l[i] := by
  unfold rdOf
  rw [Int.toNat_natCast, List.getD_eq_getElem?_getD, List.getElem?_eq_getElem h]
  rfl

theorem sE_pos' (x : S47) (h : okP1 x = true) : 0 ≤ x.f0 ∧ 1 ≤ x.f1 ∧ x.f0 + x.f1 ≤ 60 := by
  unfold okP1 at h
  rw [Bool.and_eq_true, decide_eq_true_eq, decide_eq_true_eq] at h
  obtain ⟨h1, h2, h3⟩ := h
  rw [IntWalk.wrap64_in (60 - x.f0) (by omega)] at h3
  omega
/-- Sixty answers. -/
def covL (q : Nat → Bool) : List Bool := (List.range 60).map q
theorem covL_length (q : Nat → Bool) : (covL q).length = 60 := by simp [covL]
theorem covL_congr (q r : Nat → Bool) (h : ∀ i, i < 60 → q i = r i) : covL q = covL r := by
  unfold covL
  apply List.map_congr_left
  intro i hi
  exact h i (List.mem_range.1 hi)
theorem covL_get (q : Nat → Bool) (i : Nat) (h : i < (covL q).length) : (covL q)[i] = q i := by simp [covL]
theorem covL_set (q : Nat → Bool) (t : Nat) (ht : t < 60) : (covL q).set t true = covL (fun i => q i || decide (i = t)) := by
  apply List.ext_getElem
  · rw [List.length_set, covL_length, covL_length]
  · intro i h1 h2
    rw [List.getElem_set, covL_get, covL_get]
    by_cases e : t = i
    · rw [if_pos e, decide_eq_true e.symm, Bool.or_true]
    · rw [if_neg e, decide_eq_false (fun h => e h.symm), Bool.or_false]

theorem cov_l1 (l : List S47) (hl : l.length ≤ 20) (hok : ∀ x ∈ l, okP1 x = true) (j : Nat) (hj : j < l.length) : ∀ (d k t : Nat) (q : Nat → Bool), (l[j].f0 + l[j].f1) = ((t + d : Nat) : Int) → d < k →
    spec_covered.l1 k l (covL q) (j : Int) (t : Int) = spec_covered.l0 (k - d - 1) l (covL (fun i => q i || (decide (t ≤ i) && decide (i < t + d)))) ((j + 1 : Nat) : Int) := by
  have hb := (sE_pos' l[j] (hok _ (List.getElem_mem _)))
  intro d
  induction d with
  | zero =>
    intro k t q ht hk
    obtain ⟨k, rfl⟩ : ∃ m, k = m + 1 := ⟨k - 1, by omega⟩
    rw [spec_covered.l1, if_pos (by omega), if_pos (by omega), rdP47_nat l j hj, IntWalk.wrap64_in (l[j].f0 + l[j].f1) (by omega), if_neg (by omega), step_nat j (by omega)]
    rw [covL_congr q (fun i => q i || (decide (t ≤ i) && decide (i < t + 0))) (fun i _ => by
      by_cases h : t ≤ i
      · rw [decide_eq_false (show ¬ i < t + 0 by omega), Bool.and_false, Bool.or_false]
      · rw [decide_eq_false h, Bool.false_and, Bool.or_false])]
    rfl
  | succ d ih =>
    intro k t q ht hk
    obtain ⟨k, rfl⟩ : ∃ m, k = m + 1 := ⟨k - 1, by omega⟩
    rw [spec_covered.l1, if_pos (by omega), if_pos (by omega), rdP47_nat l j hj, IntWalk.wrap64_in (l[j].f0 + l[j].f1) (by omega), if_pos (by omega), if_pos (by omega), if_pos (by rw [covL_length]; omega), step_nat t (by omega), Int.toNat_natCast, covL_set q t (by omega), ih k (t + 1) _ (by omega) (by omega)]
    rw [show k + 1 - (d + 1) - 1 = k - d - 1 by omega]
    rw [covL_congr (fun i => (q i || decide (i = t)) || (decide (t + 1 ≤ i) && decide (i < t + 1 + d))) (fun i => q i || (decide (t ≤ i) && decide (i < t + (d + 1)))) (fun i _ => by
      show ((q i || decide (i = t)) || (decide (t + 1 ≤ i) && decide (i < t + 1 + d))) = (q i || (decide (t ≤ i) && decide (i < t + (d + 1))))
      rw [Bool.or_assoc]
      congr 1
      rw [← Bool.decide_and, ← Bool.decide_and, ← Bool.decide_or]
      exact decide_eq_decide.mpr (by omega))]

theorem cov_l0 (l : List S47) (hl : l.length ≤ 20) (hok : ∀ x ∈ l, okP1 x = true) : ∀ (d k j : Nat) (q : Nat → Bool), j + d = l.length → 62 * d + 1 ≤ k →
    spec_covered.l0 k l (covL q) (j : Int) = some (covL (fun i => q i || (l.drop j).any (hand_covP (i : Int)))) := by
  intro d
  induction d with
  | zero =>
    intro k j q hj hk
    obtain ⟨k, rfl⟩ : ∃ m, k = m + 1 := ⟨k - 1, by omega⟩
    rw [spec_covered.l0, if_neg (show ¬ (j : Int) < (l.length : Int) by omega), List.drop_eq_nil_of_le (by omega)]
    congr 1
    apply covL_congr
    intro i _
    show q i = (q i || [].any (hand_covP (i : Int)))
    rw [List.any_nil, Bool.or_false]
  | succ d ih =>
    intro k j q hj hk
    obtain ⟨k, rfl⟩ : ∃ m, k = m + 1 := ⟨k - 1, by omega⟩
    have hjl : j < l.length := by omega
    have hb := (sE_pos' l[j] (hok _ (List.getElem_mem _)))
    have h0 : l[j].f0 = ((l[j].f0.toNat : Nat) : Int) := by omega
    have h1 : l[j].f0 + l[j].f1 = ((l[j].f0.toNat + l[j].f1.toNat : Nat) : Int) := by omega
    have e1 := cov_l1 l hl hok j hjl l[j].f1.toNat k l[j].f0.toNat q h1 (by omega)
    rw [← h0] at e1
    rw [spec_covered.l0, if_pos (show (j : Int) < (l.length : Int) by omega), if_pos (by omega), rdP47_nat l j hjl, e1, ih _ (j + 1) _ (by omega) (by omega), List.drop_eq_getElem_cons hjl]
    congr 1
    apply covL_congr
    intro i _
    show ((q i || (decide (l[j].f0.toNat ≤ i) && decide (i < l[j].f0.toNat + l[j].f1.toNat))) || (l.drop (j + 1)).any (hand_covP (i : Int))) = (q i || (l[j] :: l.drop (j + 1)).any (hand_covP (i : Int)))
    rw [List.any_cons, Bool.or_assoc]
    congr 2
    unfold hand_covP
    rw [IntWalk.wrap64_in (l[j].f0 + l[j].f1) (by omega)]
    congr 1
    · exact decide_eq_decide.mpr (by omega)
    · exact decide_eq_decide.mpr (by omega)

theorem cov_ok (l : List S47) (hok : okP l = true) (k : Nat) (hk : 1300 ≤ k) : spec_covered.f k l = some (covL (fun i => l.any (hand_covP (i : Int)))) := by
  unfold okP at hok
  rw [Bool.and_eq_true, List.all_eq_true, decide_eq_true_eq] at hok
  unfold spec_covered.f
  have e : List.replicate 60 false = covL (fun _ => false) := by decide
  have h := cov_l0 l hok.2 hok.1 l.length k 0 (fun _ => false) (by omega) (by omega)
  rw [show ((0 : Nat) : Int) = 0 from rfl, List.drop_zero] at h
  rw [if_pos (by omega), e, h]
  rfl

theorem specHoles_l1 (n : Nat) (hn : n ≤ 60) (q : Nat → Bool) : ∀ (d k i z : Nat) (o : List S47), i + d = n → z ≤ i → o.length ≤ i → 4 * d + 4 ≤ k →
    spec_holes.l1 k (n : Int) (covL q) o ((i - z : Nat) : Int) (z : Int) = some (o ++ (canon (fun j => !(q j)) d i z).map (pcM (n : Int))) := by
  have hfin : ∀ (k i z : Nat) (o : List S47), i ≤ n → z ≤ i → o.length ≤ i →
      (if (z : Int) > 0 then (if o.length < 5864062014805 then (spec_holes.l0 k (n : Int) (covL q) (o ++ [(⟨((i - z : Nat) : Int), (z : Int), decide ((wrap64 (((i - z : Nat) : Int) + (z : Int))) < (n : Int))⟩ : S47)]) (wrap64 (((i - z : Nat) : Int) + (mx (z : Int) 1)))) else (none)) else (spec_holes.l0 k (n : Int) (covL q) o (wrap64 (((i - z : Nat) : Int) + (mx (z : Int) 1)))))
      = (if z = 0 then spec_holes.l0 k (n : Int) (covL q) o ((i + 1 : Nat) : Int) else spec_holes.l0 k (n : Int) (covL q) (o ++ [pcM (n : Int) (i - z, z)]) (i : Int)) := by
    intro k i z o hi hz ho
    have hw : wrap64 (((i - z : Nat) : Int) + (z : Int)) = ((i - z : Nat) : Int) + (z : Int) := IntWalk.wrap64_in _ (by omega)
    by_cases h : z = 0
    · rw [if_pos h, if_neg (show ¬ (z : Int) > 0 by omega)]
      have hm : mx (z : Int) 1 = 1 := by unfold mx; rw [if_pos (by omega)]
      rw [hm, IntWalk.wrap64_in _ (by omega), show ((i - z : Nat) : Int) + 1 = ((i + 1 : Nat) : Int) by omega]
    · rw [if_neg h, if_pos (show (z : Int) > 0 by omega), if_pos (show o.length < 5864062014805 by omega)]
      have hm : mx (z : Int) 1 = (z : Int) := by unfold mx; rw [if_neg (by omega)]
      rw [hm, hw]
      unfold pcM
      rw [show ((i - z : Nat) : Int) + (z : Int) = (i : Int) by omega]
  have hl0 : ∀ (d : Nat), (∀ (k i z : Nat) (o : List S47), i + d = n → z ≤ i → o.length ≤ i → 4 * d + 4 ≤ k → spec_holes.l1 k (n : Int) (covL q) o ((i - z : Nat) : Int) (z : Int) = some (o ++ (canon (fun j => !(q j)) d i z).map (pcM (n : Int)))) →
      ∀ (k i : Nat) (o : List S47), i + d = n → o.length ≤ i → 4 * d + 5 ≤ k → spec_holes.l0 k (n : Int) (covL q) o (i : Int) = some (o ++ (canon (fun j => !(q j)) d i 0).map (pcM (n : Int))) := by
    intro d ih k i o hi ho hk
    obtain ⟨k, rfl⟩ : ∃ m, k = m + 1 := ⟨k - 1, by omega⟩
    rw [spec_holes.l0]
    by_cases h : (i : Int) < (n : Int)
    · rw [if_pos h]
      exact ih k i 0 o hi (by omega) ho (by omega)
    · rw [if_neg h]
      have e : d = 0 := by omega
      subst e
      rw [canon, if_pos rfl, List.map_nil, List.append_nil]
  intro d
  induction d with
  | zero =>
    intro k i z o hi hz ho hk
    obtain ⟨k, rfl⟩ : ∃ m, k = m + 2 := ⟨k - 2, by omega⟩
    have hw : wrap64 (((i - z : Nat) : Int) + (z : Int)) = ((i - z : Nat) : Int) + (z : Int) := IntWalk.wrap64_in _ (by omega)
    rw [spec_holes.l1, if_neg (by rw [hw]; omega), hfin (k + 1) i z o (by omega) hz ho, canon]
    by_cases h : z = 0
    · rw [if_pos h, if_pos h, spec_holes.l0, if_neg (by omega), List.map_nil, List.append_nil]
    · rw [if_neg h, if_neg h, spec_holes.l0, if_neg (by omega)]
      rfl
  | succ d ih =>
    intro k i z o hi hz ho hk
    obtain ⟨k, rfl⟩ : ∃ m, k = m + 3 := ⟨k - 3, by omega⟩
    have hw : wrap64 (((i - z : Nat) : Int) + (z : Int)) = (i : Int) := (IntWalk.wrap64_in _ (by omega)).trans (by omega)
    have hg : rdOf false (covL q) (i : Int) = q i := by
      rw [rdOf_nat _ i (by rw [covL_length]; omega), covL_get]
    have hnext := hl0 d ih
    have eq1 : spec_holes.l1 (k + 3) (n : Int) (covL q) o ((i - z : Nat) : Int) (z : Int) = (if q i = true then (if z = 0 then spec_holes.l0 (k + 2) (n : Int) (covL q) o ((i + 1 : Nat) : Int) else spec_holes.l0 (k + 2) (n : Int) (covL q) (o ++ [pcM (n : Int) (i - z, z)]) (i : Int)) else spec_holes.l1 (k + 2) (n : Int) (covL q) o ((i - z : Nat) : Int) ((z + 1 : Nat) : Int)) := by
      rw [spec_holes.l1, hfin (k + 2) i z o (by omega) hz ho, hw, if_pos (by omega), if_pos (by omega), if_pos (by rw [covL_length]; omega), hg, step_nat z (by omega)]
    rw [eq1, canon]
    cases hq : q i with
    | false =>
      rw [if_neg Bool.false_ne_true, Bool.not_false, if_pos rfl]
      have := ih (k + 2) (i + 1) (z + 1) o (by omega) (by omega) (by omega) (by omega)
      rw [show i + 1 - (z + 1) = i - z by omega] at this
      exact this
    | true =>
      rw [if_pos rfl, Bool.not_true, if_neg Bool.false_ne_true]
      by_cases h : z = 0
      · rw [if_pos h, if_pos h]
        exact hnext (k + 2) (i + 1) o (by omega) (by omega) (by omega)
      · rw [if_neg h, if_neg h]
        obtain ⟨k, rfl⟩ : ∃ m, k = m + 1 := ⟨k - 1, by omega⟩
        have hlo : (o ++ [pcM (n : Int) (i - z, z)]).length ≤ i + 1 := by rw [List.length_append, List.length_singleton]; omega
        have hlo2 : (o ++ [pcM (n : Int) (i - z, z)]).length ≤ i + 1 := hlo
        rw [show k + 1 + 2 = (k + 2) + 1 from rfl, spec_holes.l0, if_pos (show (i : Int) < (n : Int) by omega)]
        have hw0 : wrap64 ((i : Int) + 0) = (i : Int) := (IntWalk.wrap64_in _ (by omega)).trans (by omega)
        have hm : mx (0 : Int) 1 = 1 := rfl
        rw [show k + 2 = (k + 1) + 1 from rfl, spec_holes.l1, hw0, if_pos (show (i : Int) < (n : Int) by omega), if_pos (show (0 : Int) ≤ (i : Int) by omega), if_pos (show (i : Int) < ((covL q).length : Int) by rw [covL_length]; omega), hg, hq, if_pos rfl, if_neg (show ¬ (0 : Int) > 0 by omega), hm, step_nat i (by omega), hnext (k + 1) (i + 1) _ (by omega) hlo (by omega), List.map_cons, List.append_assoc]
        rfl

theorem specHolesI_ok (l : List S47) (hok : okP l = true) (n : Int) (h1 : 1 ≤ n) (h2 : n ≤ 60) (k : Nat) (hk : 1300 ≤ k) : spec_holes.f k l n = some (holesM l n) := by
  obtain ⟨m, rfl⟩ := Int.eq_ofNat_of_zero_le (show 0 ≤ n by omega)
  obtain ⟨k, rfl⟩ : ∃ j, k = j + 1 := ⟨k - 1, by omega⟩
  unfold spec_holes.f holesM
  rw [if_pos ⟨hok, h1, h2⟩, cov_ok l hok (k + 1) hk, Option.bind_some, spec_holes.l0, if_pos (by omega), Int.toNat_natCast]
  have h := specHoles_l1 m (by omega) (fun i => l.any (hand_covP (i : Int))) m k 0 0 [] (by omega) (by omega) (by simp) (by omega)
  exact h

theorem specHoles_ok (l : List S47) (hl : l.length ≤ 2000000) (n : Int) (k : Nat) (hk : 1300 + l.length ≤ k) : spec_HolesOf.f k l n = some (holesM l n) := by
  unfold spec_HolesOf.f
  rw [specVP_ok l hl k (by omega), Option.bind_some]
  by_cases h : okP l = true
  · rw [if_pos h, inRange_val, Option.bind_some]
    by_cases h2 : 1 ≤ n ∧ n ≤ 60
    · rw [decide_eq_true h2, if_pos rfl, specHolesI_ok l h n h2.1 h2.2 k (by omega), Option.bind_some]
    · rw [decide_eq_false h2, if_neg Bool.false_ne_true]
      unfold holesM
      rw [if_neg (fun h3 => h2 h3.2)]
  · rw [if_neg h]
    unfold holesM
    rw [if_neg (fun h3 => h h3.1)]

theorem eqPiece_self (a b : Int) (c : Bool) : laws_eqPiece.f a b c a b c = some true := by
  unfold laws_eqPiece.f
  rw [if_pos rfl, if_pos rfl, bne_self_eq_false, if_neg Bool.false_ne_true]

theorem eqPieceS_l0 (a : List S47) (hl : a.length ≤ 2000000) : ∀ (d k i : Nat), i + d = a.length → d < k → laws_eqPieceS.l0 k a a (i : Int) = some true := by
  intro d
  induction d with
  | zero =>
    intro k i hi hk
    obtain ⟨k, rfl⟩ : ∃ m, k = m + 1 := ⟨k - 1, by omega⟩
    simp only [laws_eqPieceS.l0]
    rw [if_neg (by omega)]
  | succ d ih =>
    intro k i hi hk
    obtain ⟨k, rfl⟩ : ∃ m, k = m + 1 := ⟨k - 1, by omega⟩
    simp only [laws_eqPieceS.l0]
    rw [if_pos (by omega), if_pos (by omega), if_pos (by omega), eqPiece_self, Option.bind_some, if_pos rfl, step_nat i (by omega)]
    exact ih k (i + 1) (by omega) (by omega)

theorem eqPieceS_self (a : List S47) (hl : a.length ≤ 2000000) (k : Nat) (hk : a.length < k) : laws_eqPieceS.f k a a = some true := by
  unfold laws_eqPieceS.f
  rw [if_pos rfl]
  exact eqPieceS_l0 a hl a.length k 0 (by omega) hk

theorem rdP_nat (l : List S47) (i : Nat) (h : i < l.length) : rd_T47 l (i : Int) = l[i] := by
  unfold rd_T47
  rw [Int.toNat_natCast, List.getD_eq_getElem?_getD, List.getElem?_eq_getElem h]
  rfl

def conv (x : S56) : S47 := ⟨x.f0, x.f1, x.f2⟩
theorem rdP56_nat (l : List S56) (i : Nat) (h : i < l.length) : rd_T56 l (i : Int) = l[i] := by
  unfold rd_T56
  rw [Int.toNat_natCast, List.getD_eq_getElem?_getD, List.getElem?_eq_getElem h]
  rfl
theorem toPieceS_l0 (l : List S56) (hl : l.length ≤ 2000000) : ∀ (d k i : Nat) (o : List S47), i + d = l.length → d < k → o.length = l.length → (∀ j, j < i → o[j]? = (l.map conv)[j]?) → laws_toPieceS.l0 k l o (i : Int) = some (l.map conv) := by
  intro d
  induction d with
  | zero =>
    intro k i o hi hk ho hj
    obtain ⟨k, rfl⟩ : ∃ m, k = m + 1 := ⟨k - 1, by omega⟩
    rw [laws_toPieceS.l0, if_neg (by omega)]
    congr 1
    apply List.ext_getElem?
    intro j
    by_cases h : j < l.length
    · exact hj j (by omega)
    · rw [List.getElem?_eq_none (by omega), List.getElem?_eq_none (by rw [List.length_map]; omega)]
  | succ d ih =>
    intro k i o hi hk ho hj
    obtain ⟨k, rfl⟩ : ∃ m, k = m + 1 := ⟨k - 1, by omega⟩
    rw [laws_toPieceS.l0, if_pos (by omega), if_pos (by omega)]
    unfold laws_toPiece.f
    rw [Option.bind_some, if_pos (by omega), step_nat i (by omega), Int.toNat_natCast, rdP56_nat l i (by omega)]
    refine ih k (i + 1) _ (by omega) (by omega) (by rw [List.length_set]; exact ho) ?_
    intro j hji
    by_cases e : i = j
    · subst e
      rw [List.getElem?_set_self (by omega), List.getElem?_map, List.getElem?_eq_getElem (by omega)]
      rfl
    · rw [List.getElem?_set_ne e]
      exact hj j (by omega)

theorem toPieceS_ok (l : List S56) (hl : l.length ≤ 2000000) (k : Nat) (hk : l.length < k) : laws_toPieceS.f k l = some (l.map conv) := by
  unfold laws_toPieceS.f
  rw [if_pos (by omega), if_pos (by rw [Int.toNat_natCast]; omega), Int.toNat_natCast]
  exact toPieceS_l0 l hl l.length k 0 _ (by omega) hk (List.length_replicate ..) (fun j hj => absurd hj (Nat.not_lt_zero _))

theorem szP_ok (l : List S56) (n : Int) (hl : l.length ≤ maxLen) (h0 : 0 ≤ n) (h1 : n ≤ 1048576) : laws_szPieceS.f l n = some (if n - (l.length : Int) < 0 then -1 else n - (l.length : Int)) := by
  have hm : maxLen ≤ 9223372036854775807 := by decide
  unfold laws_szPieceS.f
  rw [IntWalk.wrap64_in (n - (l.length : Int)) (by omega)]
  by_cases h : n - (l.length : Int) < 0
  · rw [if_pos h, if_pos h]
  · rw [if_neg h, if_neg h]

/-- The marks of a piece. -/
def mkP (m : Int) (j : Nat) : S47 := ⟨m + 3 * (j : Int), m + 3 * (j : Int) + 1, (Int.tmod (m + 3 * (j : Int) + 1 + 1) 3 == 0)⟩
def iotaP (m : Int) (n : Nat) : List S47 := (List.range n).map fun j : Nat => mkP m j

theorem iotaP_length (m : Int) (n : Nat) : (iotaP m n).length = n := by simp [iotaP]
theorem iotaP_get (m : Int) (n j : Nat) (h : j < (iotaP m n).length) : (iotaP m n)[j] = mkP m j := by simp [iotaP]
theorem iotaP_get? (m : Int) (n j : Nat) (h : j < n) : (iotaP m n)[j]? = some (mkP m j) := by
  rw [List.getElem?_eq_getElem (by rw [iotaP_length]; exact h), iotaP_get]

theorem rdP_set (l : List S47) (i : Nat) (v : S47) (h : i < l.length) : rd_T47 (l.set i v) (i : Int) = v := by
  rw [rdP_nat _ i (by rw [List.length_set]; exact h), List.getElem_set_self]

theorem markPieceS_l0 (n : Nat) (m : Int) (hn : n ≤ 2000000) (hm : 0 ≤ m) (hm' : m ≤ 4000000) : ∀ (d k i : Nat) (o : List S47), i + d = n → d < k → o.length = n → (∀ j, j < i → o[j]? = (iotaP m n)[j]?) → laws_markPieceS.l0 k o (m + 3 * (i : Int)) (i : Int) = some (m + 3 * (n : Int), iotaP m n) := by
  intro d
  induction d with
  | zero =>
    intro k i o hi hk ho hj
    obtain ⟨k, rfl⟩ : ∃ m, k = m + 1 := ⟨k - 1, by omega⟩
    simp only [laws_markPieceS.l0]
    rw [if_neg (by omega)]
    have e : i = n := by omega
    subst e
    congr 2
    apply List.ext_getElem?
    intro j
    by_cases h : j < i
    · exact hj j h
    · rw [List.getElem?_eq_none (by omega), List.getElem?_eq_none (by rw [iotaP_length]; omega)]
  | succ d ih =>
    intro k i o hi hk ho hj
    obtain ⟨k, rfl⟩ : ∃ m, k = m + 1 := ⟨k - 1, by omega⟩
    simp only [laws_markPieceS.l0]
    rw [if_pos (by omega), if_pos (by omega), Option.bind_some, Option.bind_some, Int.toNat_natCast]
    rw [rdP_set o i _ (by omega), rdP_set _ i _ (by rw [List.length_set]; omega), List.set_set, List.set_set]
    rw [step_nat i (by omega), IntWalk.wrap64_in (m + 3 * (i : Int) + 1) (by omega), IntWalk.wrap64_in (m + 3 * (i : Int) + 1 + 1) (by omega), (IntWalk.wrap64_in (m + 3 * (i : Int) + 1 + 1 + 1) (by omega)).trans (show m + 3 * (i : Int) + 1 + 1 + 1 = m + 3 * ((i + 1 : Nat) : Int) by omega)]
    refine ih k (i + 1) _ (by omega) (by omega) (by rw [List.length_set]; exact ho) ?_
    intro j hji
    by_cases e : i = j
    · subst e
      rw [List.getElem?_set_self (by omega), iotaP_get? m n i (by omega)]
      rfl
    · rw [List.getElem?_set_ne e]
      exact hj j (by omega)

theorem markPieceS_ok (l : List S47) (m : Int) (hl : l.length ≤ 2000000) (hm : 0 ≤ m) (hm' : m ≤ 4000000) (k : Nat) (hk : l.length < k) : laws_markPieceS.f k l m = some (m + 3 * (l.length : Int), iotaP m l.length) := by
  unfold laws_markPieceS.f
  have h := markPieceS_l0 l.length m hl hm hm' l.length k 0 l (by omega) hk rfl (fun j hj => absurd hj (Nat.not_lt_zero _))
  rw [show m + 3 * ((0 : Nat) : Int) = m by omega] at h
  exact h

theorem heldPieceS_l0 (n : Nat) (m : Int) (hn : n ≤ 2000000) (hm : 0 ≤ m) (hm' : m ≤ 4000000) : ∀ (d k i : Nat), i + d = n → d < k → laws_heldPieceS.l0 k (iotaP m n) (m + 3 * (i : Int)) (i : Int) = some (m + 3 * (n : Int)) := by
  intro d
  induction d with
  | zero =>
    intro k i hi hk
    obtain ⟨k, rfl⟩ : ∃ m, k = m + 1 := ⟨k - 1, by omega⟩
    simp only [laws_heldPieceS.l0]
    rw [if_neg (by rw [iotaP_length]; omega)]
    have e : i = n := by omega
    rw [e]
  | succ d ih =>
    intro k i hi hk
    obtain ⟨k, rfl⟩ : ∃ m, k = m + 1 := ⟨k - 1, by omega⟩
    simp only [laws_heldPieceS.l0]
    rw [if_pos (by rw [iotaP_length]; omega), if_pos (by omega), rdP_nat _ i (by rw [iotaP_length]; omega), iotaP_get]
    rw [if_pos (show (mkP m i).f0 = m + 3 * (i : Int) from rfl), IntWalk.wrap64_in (m + 3 * (i : Int) + 1) (by omega), if_pos (show (mkP m i).f1 = m + 3 * (i : Int) + 1 from rfl), IntWalk.wrap64_in (m + 3 * (i : Int) + 1 + 1) (by omega)]
    rw [show (mkP m i).f2 = (Int.tmod (m + 3 * (i : Int) + 1 + 1) 3 == 0) from rfl, bne_self_eq_false, if_neg Bool.false_ne_true]
    rw [step_nat i (by omega), (IntWalk.wrap64_in (m + 3 * (i : Int) + 1 + 1 + 1) (by omega)).trans (show m + 3 * (i : Int) + 1 + 1 + 1 = m + 3 * ((i + 1 : Nat) : Int) by omega)]
    exact ih k (i + 1) (by omega) (by omega)

theorem heldPieceS_ok (n : Nat) (m : Int) (hn : n ≤ 2000000) (hm : 0 ≤ m) (hm' : m ≤ 4000000) (k : Nat) (hk : n < k) : laws_heldPieceS.f k (iotaP m n) m = some (m + 3 * (n : Int)) := by
  unfold laws_heldPieceS.f
  have h := heldPieceS_l0 n m hn hm hm' n k 0 (by omega) hk
  rw [show m + 3 * ((0 : Nat) : Int) = m by omega] at h
  exact h

theorem FnExactHolesOf (l : List S56) (a1 : Int) (hl : l.length ≤ maxLen) : ∃ k, laws_FnExactHolesOf.f k l a1 = some true := by
  refine ⟨l.length + 1400 + 1, ?_⟩
  unfold laws_FnExactHolesOf.f
  rw [szP_ok l 1048576 hl (by omega) (by omega), Option.bind_some]
  by_cases h : (1048576 : Int) - (l.length : Int) < 0
  · rw [if_pos h, if_pos (show (-1 : Int) < 0 by omega)]
  · have hn : (l.map conv).length = l.length := List.length_map ..
    rw [if_neg h, if_neg h, toPieceS_ok l (by omega) _ (by omega), Option.bind_some, specHoles_ok _ (by omega) a1 _ (by omega), Option.bind_some, Option.bind_some, implHoles_ok _ a1 _ (by omega), Option.bind_some]
    have hh : (holesM (l.map conv) a1).length ≤ 61 := by
      unfold holesM
      by_cases hg : okP (l.map conv) = true ∧ 1 ≤ a1 ∧ a1 ≤ 60
      · rw [if_pos hg, List.length_map]
        have := canon_len (holeH (l.map conv)) a1.toNat 0 0
        omega
      · rw [if_neg hg]; simp
    rw [eqPieceS_self _ (by omega) _ (by omega), Option.bind_some, if_pos rfl, Option.bind_some, eqPieceS_self _ (by omega) _ (by omega), Option.bind_some, if_pos rfl, markPieceS_ok _ 1 (by omega) (by omega) (by omega) _ (by omega), Option.bind_some, if_neg (by omega), Option.bind_some, Bool.not_true, laws_FnExactHolesOf.j0, if_neg Bool.false_ne_true, markPieceS_ok _ 1 (by omega) (by omega) (by omega) _ (by omega), Option.bind_some, heldPieceS_ok _ 1 (by omega) (by omega) (by omega) _ (by omega), Option.bind_some, if_neg (by omega), if_pos rfl, toPieceS_ok l (by omega) _ (by omega), Option.bind_some, implHoles_ok _ a1 _ (by omega), Option.bind_some, eqPieceS_self _ (by omega) _ (by omega), Option.bind_some, if_pos rfl, Option.bind_some, if_neg (by omega), if_pos rfl]

end Go.Proofs.Ytghnljpimkchhaa.Pure
