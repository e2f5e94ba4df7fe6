/- Holes fill up: FnHolesOf returns true for every list of bytes. Conditions: none. -/
import Derived.Test.YtghnljpimkchhaaHFnHolesOfx7
namespace Go.Proofs.Ytghnljpimkchhaa.Pure
open Go.RowKit Go.Proofs.Ytghnljpimkchhaa.HFnHolesOf Go.Proofs.YtghnljpimkchhaaW.PrintWords Go.Proofs.YtghnljpimkchhaaW.PrintLast
open Go
set_option linter.unusedVariables false
set_option linter.unusedSimpArgs false

theorem rd_nat (l : List Int) (i : Nat) (h : i < l.length) : rd l (i : Int) = l[i] := by
  unfold rd
  rw [Int.toNat_natCast, List.getD_eq_getElem?_getD, List.getElem?_eq_getElem h]
  rfl

theorem step_nat (i : Nat) (h : i < 4611686018427387904) : wrap64 ((i : Int) + 1) = ((i + 1 : Nat) : Int) := by
  rw [IntWalk.wrap64_in ((i : Int) + 1) (by omega)]
  rfl

theorem within_val (x a b : Int) : impl_within.f x a b = some (decide (a ≤ x ∧ x ≤ b)) := by
  unfold impl_within.f
  by_cases h : a ≤ x
  · rw [if_pos h]; simp [h]
  · rw [if_neg h]; simp [h]

theorem inRange_val (x a b : Int) : spec_inRange.f x a b = some (decide (a ≤ x ∧ x ≤ b)) := by
  unfold spec_inRange.f
  by_cases h : a ≤ x
  · rw [if_pos h]; simp [h]
  · rw [if_neg h]; simp [h]

def okP1 (x : S47) : Bool := decide (0 ≤ x.f0 ∧ x.f0 ≤ 59) && decide (1 ≤ x.f1 ∧ x.f1 ≤ wrap64 (60 - x.f0))
def okP (l : List S47) : Bool := l.all okP1 && decide (l.length ≤ 20)

theorem vp1_val (x : S47) : impl_ValidPieces_1.f x.f0 x.f1 x.f2 = some (!(okP1 x)) := by
  unfold impl_ValidPieces_1.f okP1
  rw [within_val, Option.bind_some, within_val, Option.bind_some]
  by_cases h : 0 ≤ x.f0 ∧ x.f0 ≤ 59
  · rw [decide_eq_true h, if_pos rfl, Bool.true_and]
  · rw [decide_eq_false h, if_neg Bool.false_ne_true, Bool.false_and, Bool.not_false]

theorem implVP_val (l : List S47) : impl_ValidPieces.f l = some (okP l) := by
  unfold impl_ValidPieces.f hand_Contains_ValidPieces.f
  have hany : (l.any fun x => (impl_ValidPieces_1.f x.f0 x.f1 x.f2).getD false) = !(l.all okP1) := by
    induction l with
    | nil => rfl
    | cons x l ih =>
      rw [List.any_cons, List.all_cons, ih, vp1_val, Option.getD_some]
      show (!(okP1 x) || !(l.all okP1)) = !(okP1 x && l.all okP1)
      rw [Bool.not_and]
  rw [hany, Option.bind_some, Bool.not_not]
  unfold okP
  by_cases h : l.length ≤ 20
  · rw [if_pos (by omega), decide_eq_true h, Bool.and_true]
  · rw [if_neg (by omega), decide_eq_false h, Bool.and_false]

theorem rdP47_nat (l : List S47) (i : Nat) (h : i < l.length) : rd_T47 l (i : Int) = l[i] := by
  unfold rd_T47
  rw [Int.toNat_natCast, List.getD_eq_getElem?_getD, List.getElem?_eq_getElem h]
  rfl

theorem specVP_l0 (l : List S47) (hl : l.length ≤ 2000000) : ∀ (d k i : Nat), i + d = l.length → d < k → spec_validPieces.l0 k l (i : Int) = some ((l.drop i).all okP1 && decide (l.length ≤ 20)) := by
  intro d
  induction d with
  | zero =>
    intro k i hi hk
    obtain ⟨k, rfl⟩ : ∃ m, k = m + 1 := ⟨k - 1, by omega⟩
    rw [spec_validPieces.l0, if_neg (by omega), List.drop_eq_nil_of_le (by omega), List.all_nil, Bool.true_and]
    exact congrArg some (decide_eq_decide.mpr (by omega))
  | succ d ih =>
    intro k i hi hk
    obtain ⟨k, rfl⟩ : ∃ m, k = m + 1 := ⟨k - 1, by omega⟩
    rw [spec_validPieces.l0, if_pos (by omega), if_pos (by omega), rdP47_nat l i (by omega), inRange_val, Option.bind_some, inRange_val, Option.bind_some, step_nat i (by omega), List.drop_eq_getElem_cons (by omega : i < l.length), List.all_cons]
    generalize l[i]'(by omega) = x
    unfold okP1
    by_cases h1 : 0 ≤ x.f0 ∧ x.f0 ≤ 59
    · rw [decide_eq_true h1, if_pos rfl, Bool.true_and]
      by_cases h2 : 1 ≤ x.f1 ∧ x.f1 ≤ wrap64 (60 - x.f0)
      · rw [decide_eq_true h2, if_pos rfl, Bool.true_and, ih k (i + 1) (by omega) (by omega)]
        rfl
      · rw [decide_eq_false h2, if_neg Bool.false_ne_true, Bool.false_and, Bool.false_and]
    · rw [decide_eq_false h1, if_neg Bool.false_ne_true, Bool.false_and, Bool.false_and, Bool.false_and]

theorem specVP_ok (l : List S47) (hl : l.length ≤ 2000000) (k : Nat) (hk : l.length < k) : spec_validPieces.f k l = some (okP l) := by
  unfold spec_validPieces.f
  have h := specVP_l0 l hl l.length k 0 (by omega) hk
  rw [List.drop_zero] at h
  exact h

def pcN (q : Nat × Nat) : S47 := ⟨(q.1 : Int), (q.2 : Int), false⟩
def pcM (n : Int) (q : Nat × Nat) : S47 := ⟨(q.1 : Int), (q.2 : Int), decide ((q.1 : Int) + (q.2 : Int) < n)⟩
/-- The rows of numbers that a test lets in, from place i on, z of which are open. -/
def canon (h : Nat → Bool) : Nat → Nat → Nat → List (Nat × Nat)
  | 0, i, z => if z = 0 then [] else [(i - z, z)]
  | d + 1, i, z => if h i = true then canon h d (i + 1) (z + 1) else (if z = 0 then canon h d (i + 1) 0 else (i - z, z) :: canon h d (i + 1) 0)
def openN (i z : Nat) : List S47 := if z = 0 then [] else [pcN (i - z, z)]

theorem rdP_last (fin : List S47) (a : S47) : rd_T47 (fin ++ [a]) (fin.length : Int) = a := by
  rw [rdP47_nat _ _ (by rw [List.length_append, List.length_singleton]; omega), List.getElem_append_right (by omega)]
  simp

theorem rows_l0 (p : Int → Bool) (n : Nat) (hn : n ≤ 60) : ∀ (d k i z : Nat) (fin : List S47), i + d = n → d < k → z ≤ i → fin.length ≤ i → (∀ x ∈ fin, 0 ≤ x.f0 + x.f1 ∧ x.f0 + x.f1 < (i : Int)) →
    impl_rows.l0 p k (fin ++ openN i z) (n : Int) (i : Int) = some (fin ++ (canon (fun j => p (j : Int)) d i z).map pcN) := by
  intro d
  induction d with
  | zero =>
    intro k i z fin hi hk hz hl hf
    obtain ⟨k, rfl⟩ : ∃ m, k = m + 1 := ⟨k - 1, by omega⟩
    rw [impl_rows.l0, if_neg (show ¬ (i : Int) < (n : Int) by omega), canon, openN]
    by_cases h : z = 0
    · rw [if_pos h, if_pos h]; rfl
    · rw [if_neg h, if_neg h]; rfl
  | succ d ih =>
    intro k i z fin hi hk hz hl hf
    obtain ⟨k, rfl⟩ : ∃ m, k = m + 1 := ⟨k - 1, by omega⟩
    have hf' : ∀ x ∈ fin, 0 ≤ x.f0 + x.f1 ∧ x.f0 + x.f1 < ((i + 1 : Nat) : Int) := fun x hx => ⟨(hf x hx).1, by have := (hf x hx).2; omega⟩
    rw [impl_rows.l0, if_pos (show (i : Int) < (n : Int) by omega), hand_in.f, Option.bind_some, canon, step_nat i (by omega)]
    cases hp : p (i : Int) with
    | false =>
      rw [if_neg Bool.false_ne_true, if_neg Bool.false_ne_true]
      by_cases h : z = 0
      · rw [if_pos h]
        subst h
        exact ih k (i + 1) 0 fin (by omega) (by omega) (by omega) (by omega) hf'
      · rw [if_neg h]
        have h2 := ih k (i + 1) 0 (fin ++ [pcN (i - z, z)]) (by omega) (by omega) (by omega) (by rw [List.length_append, List.length_singleton]; omega) (by
          intro x hx
          rcases List.mem_append.1 hx with hx | hx
          · exact hf' x hx
          · rw [List.mem_singleton.1 hx]
            show 0 ≤ ((i - z : Nat) : Int) + (z : Int) ∧ ((i - z : Nat) : Int) + (z : Int) < ((i + 1 : Nat) : Int)
            omega)
        rw [openN, if_pos rfl, List.append_nil] at h2
        rw [openN, if_neg h, h2, List.map_cons, List.append_assoc]
        rfl
    | true =>
      rw [if_pos rfl, if_pos rfl]
      by_cases h : z = 0
      · subst h
        rw [openN, if_pos rfl, List.append_nil]
        have h2 := ih k (i + 1) (0 + 1) fin (by omega) (by omega) (by omega) (by omega) hf'
        rw [openN, if_neg (by omega)] at h2
        have e : (⟨(i : Int), 1, false⟩ : S47) = pcN (i + 1 - (0 + 1), 0 + 1) := by
          unfold pcN
          rw [show i + 1 - (0 + 1) = i by omega]
          rfl
        rw [← e] at h2
        have hw : wrap64 ((fin.length : Int) - 1) = (fin.length : Int) - 1 := IntWalk.wrap64_in _ (by omega)
        rw [hw]
        by_cases h0 : (fin.length : Int) - 1 ≥ 0
        · have hm : rd_T47 fin ((fin.length : Int) - 1) ∈ fin := by
            rw [show (fin.length : Int) - 1 = ((fin.length - 1 : Nat) : Int) by omega, rdP47_nat _ _ (by omega)]
            exact List.getElem_mem _
          have hx := hf _ hm
          rw [if_pos h0, if_pos (show (0 : Int) ≤ (fin.length : Int) - 1 by omega), if_pos (show (fin.length : Int) - 1 < (fin.length : Int) by omega), IntWalk.wrap64_in (_ + _) (by omega), if_neg (by omega), if_pos (show fin.length < 5864062014805 by omega)]
          exact h2
        · rw [if_neg h0, if_pos (show fin.length < 5864062014805 by omega)]
          exact h2
      · have hlen : ((fin ++ openN i z).length : Int) = (fin.length : Int) + 1 := by
          rw [openN, if_neg h, List.length_append, List.length_singleton]; omega
        have hw : wrap64 (((fin ++ openN i z).length : Int) - 1) = (fin.length : Int) := by
          rw [hlen, IntWalk.wrap64_in _ (by omega)]; omega
        have hr : rd_T47 (fin ++ openN i z) (fin.length : Int) = pcN (i - z, z) := by
          rw [openN, if_neg h]; exact rdP_last fin _
        have he : wrap64 ((pcN (i - z, z)).f0 + (pcN (i - z, z)).f1) = (i : Int) := by
          show wrap64 (((i - z : Nat) : Int) + (z : Int)) = (i : Int)
          rw [IntWalk.wrap64_in _ (by omega)]; omega
        rw [hw, hr, he, if_pos (show (fin.length : Int) ≥ 0 by omega), if_pos (show (0 : Int) ≤ (fin.length : Int) by omega), if_pos (show (fin.length : Int) < ((fin ++ openN i z).length : Int) by omega), if_pos rfl]
        have h2 := ih k (i + 1) (z + 1) fin (by omega) (by omega) (by omega) (by omega) hf'
        rw [openN, if_neg (by omega)] at h2
        have e : (⟨(pcN (i - z, z)).f0, wrap64 ((pcN (i - z, z)).f1 + 1), (pcN (i - z, z)).f2⟩ : S47) = pcN (i + 1 - (z + 1), z + 1) := by
          show (⟨((i - z : Nat) : Int), wrap64 ((z : Int) + 1), false⟩ : S47) = _
          unfold pcN
          rw [step_nat z (by omega), show i + 1 - (z + 1) = i - z by omega]
        rw [e, Int.toNat_natCast]
        have es : (fin ++ openN i z).set fin.length (pcN (i + 1 - (z + 1), z + 1)) = fin ++ [pcN (i + 1 - (z + 1), z + 1)] := by
          rw [openN, if_neg h, List.set_append_right _ _ (Nat.le_refl _), Nat.sub_self]
          rfl
        rw [es]
        exact h2

theorem rows_ok (p : Int → Bool) (n : Nat) (hn : n ≤ 60) (k : Nat) (hk : n < k) : impl_rows.f p k (n : Int) = some ((canon (fun j => p (j : Int)) n 0 0).map pcN) := by
  have h := rows_l0 p n hn n k 0 0 [] (by omega) hk (by omega) (by simp) (by simp)
  rw [openN, if_pos rfl] at h
  exact h

theorem canon_bound (h : Nat → Bool) : ∀ (d i z : Nat), z ≤ i → ∀ q ∈ canon h d i z, i - z ≤ q.1 ∧ 1 ≤ q.2 ∧ q.1 + q.2 ≤ i + d := by
  intro d
  induction d with
  | zero =>
    intro i z hz q hq
    rw [canon] at hq
    by_cases h0 : z = 0
    · rw [if_pos h0] at hq; cases hq
    · rw [if_neg h0] at hq
      rw [List.mem_singleton.1 hq]
      show i - z ≤ i - z ∧ 1 ≤ z ∧ i - z + z ≤ i + 0
      omega
  | succ d ih =>
    intro i z hz q hq
    rw [canon] at hq
    by_cases h1 : h i = true
    · rw [if_pos h1] at hq
      have := ih (i + 1) (z + 1) (by omega) q hq
      omega
    · rw [if_neg h1] at hq
      by_cases h0 : z = 0
      · rw [if_pos h0] at hq
        have := ih (i + 1) 0 (by omega) q hq
        omega
      · rw [if_neg h0] at hq
        rcases List.mem_cons.1 hq with rfl | hq
        · show i - z ≤ i - z ∧ 1 ≤ z ∧ i - z + z ≤ i + (d + 1)
          omega
        · have := ih (i + 1) 0 (by omega) q hq
          omega

theorem canon_len (h : Nat → Bool) : ∀ (d i z : Nat), (canon h d i z).length ≤ d + 1 := by
  intro d
  induction d with
  | zero => intro i z; rw [canon]; by_cases h0 : z = 0 <;> simp [h0]
  | succ d ih =>
    intro i z
    rw [canon]
    by_cases h1 : h i = true
    · rw [if_pos h1]; have := ih (i + 1) (z + 1); omega
    · rw [if_neg h1]
      by_cases h0 : z = 0
      · rw [if_pos h0]; have := ih (i + 1) 0; omega
      · rw [if_neg h0, List.length_cons]; have := ih (i + 1) 0; omega

/-- Setting More, piece by piece. -/
def setM (n : Int) (x : S47) : S47 := ⟨x.f0, x.f1, decide (wrap64 (x.f0 + x.f1) < n)⟩
theorem setMore_l0 (n : Int) (l : List S47) (hl : l.length ≤ 2000000) : ∀ (d k i : Nat) (o : List S47), i + d = l.length → d < k → o.length = l.length → (∀ j, j < i → o[j]? = (l.map (setM n))[j]?) → (∀ j, i ≤ j → o[j]? = l[j]?) → impl_HolesOf.l0 k n o (l.length : Int) (i : Int) = some (l.map (setM n)) := by
  intro d
  induction d with
  | zero =>
    intro k i o hi hk ho hj hj2
    obtain ⟨k, rfl⟩ : ∃ m, k = m + 1 := ⟨k - 1, by omega⟩
    rw [impl_HolesOf.l0, if_neg (by omega)]
    congr 1
    apply List.ext_getElem?
    intro j
    by_cases h : j < l.length
    · exact hj j (by omega)
    · rw [List.getElem?_eq_none (by omega), List.getElem?_eq_none (by rw [List.length_map]; omega)]
  | succ d ih =>
    intro k i o hi hk ho hj hj2
    obtain ⟨k, rfl⟩ : ∃ m, k = m + 1 := ⟨k - 1, by omega⟩
    have hio : i < o.length := by omega
    have hil : i < l.length := by omega
    have hr : rd_T47 o (i : Int) = l[i] := by
      rw [rdP47_nat o i hio]
      have := hj2 i (by omega)
      rw [List.getElem?_eq_getElem hio, List.getElem?_eq_getElem hil] at this
      exact Option.some.inj this
    rw [impl_HolesOf.l0, if_pos (show (i : Int) < (l.length : Int) by omega), if_pos (by omega), if_pos (by omega), hr, step_nat i (by omega), Int.toNat_natCast]
    refine ih k (i + 1) _ (by omega) (by omega) (by rw [List.length_set]; exact ho) ?_ ?_
    · intro j hji
      by_cases e : i = j
      · subst e
        rw [List.getElem?_set_self hio, List.getElem?_map, List.getElem?_eq_getElem hil]
        rfl
      · rw [List.getElem?_set_ne e]
        exact hj j (by omega)
    · intro j hji
      rw [List.getElem?_set_ne (by omega)]
      exact hj2 j (by omega)

def holeH (l : List S47) (j : Nat) : Bool := !(l.any (hand_covP (j : Int)))
def holesM (l : List S47) (n : Int) : List S47 := if okP l = true ∧ 1 ≤ n ∧ n ≤ 60 then (canon (holeH l) n.toNat 0 0).map (pcM n) else []

theorem implHoles_ok (l : List S47) (n : Int) (k : Nat) (hk : 100 ≤ k) : impl_HolesOf.f k l n = some (holesM l n) := by
  obtain ⟨k, rfl⟩ : ∃ m, k = m + 1 := ⟨k - 1, by omega⟩
  unfold impl_HolesOf.f holesM
  rw [implVP_val, Option.bind_some]
  by_cases h1 : okP l = true
  · rw [if_pos h1, within_val, Option.bind_some]
    by_cases h2 : 1 ≤ n ∧ n ≤ 60
    · rw [decide_eq_true h2, if_pos ⟨h1, h2⟩, Bool.not_true, impl_HolesOf.j0, if_neg Bool.false_ne_true]
      obtain ⟨m, rfl⟩ := Int.eq_ofNat_of_zero_le (show 0 ≤ n by omega)
      rw [Int.toNat_natCast]
      have hr := rows_ok (fun i => !(l.any (hand_covP i))) m (by omega) k (by omega)
      unfold hand_rows_Holes.f
      rw [hr, Option.bind_some]
      have hb := canon_bound (holeH l) m 0 0 (by omega)
      have hl := canon_len (holeH l) m 0 0
      show impl_HolesOf.l0 k (m : Int) ((canon (holeH l) m 0 0).map pcN) (((canon (holeH l) m 0 0).map pcN).length : Int) 0 = _
      have hs := setMore_l0 (m : Int) ((canon (holeH l) m 0 0).map pcN) (by rw [List.length_map]; omega) ((canon (holeH l) m 0 0).map pcN).length k 0 _ (by omega) (by rw [List.length_map]; omega) rfl (fun j hj => absurd hj (Nat.not_lt_zero _)) (fun j _ => rfl)
      rw [show ((0 : Nat) : Int) = 0 from rfl] at hs
      rw [hs, List.map_map]
      congr 1
      apply List.map_congr_left
      intro q hq
      have hq' := hb q hq
      show setM (m : Int) (pcN q) = pcM (m : Int) q
      unfold setM pcM pcN
      show (⟨(q.1 : Int), (q.2 : Int), decide (wrap64 ((q.1 : Int) + (q.2 : Int)) < (m : Int))⟩ : S47) = _
      rw [IntWalk.wrap64_in _ (by omega)]
    · rw [decide_eq_false h2, if_neg (fun h => h2 h.2), Bool.not_false, impl_HolesOf.j0, if_pos rfl]
  · rw [if_neg h1, if_neg (fun h => h1 h.1), impl_HolesOf.j0, if_pos rfl]

theorem rdOf_nat (l : List Bool) (i : Nat) (h : i < l.length) : rdOf false l (i : Int) = l[i] := by
  unfold rdOf
  rw [Int.toNat_natCast, List.getD_eq_getElem?_getD, List.getElem?_eq_getElem h]
  rfl

theorem sE_pos' (x : S47) (h : okP1 x = true) : 0 ≤ x.f0 ∧ 1 ≤ x.f1 ∧ x.f0 + x.f1 ≤ 60 := by
  unfold okP1 at h
  rw [Bool.and_eq_true, decide_eq_true_eq, decide_eq_true_eq] at h
  obtain ⟨h1, h2, h3⟩ := h
  rw [IntWalk.wrap64_in (60 - x.f0) (by omega)] at h3
  omega
/-- Sixty answers. -/
def covL (q : Nat → Bool) : List Bool := (List.range 60).map q
theorem covL_length (q : Nat → Bool) : (covL q).length = 60 := by simp [covL]
theorem covL_congr (q r : Nat → Bool) (h : ∀ i, i < 60 → q i = r i) : covL q = covL r := by
  unfold covL
  apply List.map_congr_left
  intro i hi
  exact h i (List.mem_range.1 hi)
theorem covL_get (q : Nat → Bool) (i : Nat) (h : i < (covL q).length) : (covL q)[i] = q i := by simp [covL]
theorem covL_set (q : Nat → Bool) (t : Nat) (ht : t < 60) : (covL q).set t true = covL (fun i => q i || decide (i = t)) := by
  apply List.ext_getElem
  · rw [List.length_set, covL_length, covL_length]
  · intro i h1 h2
    rw [List.getElem_set, covL_get, covL_get]
    by_cases e : t = i
    · rw [if_pos e, decide_eq_true e.symm, Bool.or_true]
    · rw [if_neg e, decide_eq_false (fun h => e h.symm), Bool.or_false]

theorem cov_l1 (l : List S47) (hl : l.length ≤ 20) (hok : ∀ x ∈ l, okP1 x = true) (j : Nat) (hj : j < l.length) : ∀ (d k t : Nat) (q : Nat → Bool), (l[j].f0 + l[j].f1) = ((t + d : Nat) : Int) → d < k →
    spec_covered.l1 k l (covL q) (j : Int) (t : Int) = spec_covered.l0 (k - d - 1) l (covL (fun i => q i || (decide (t ≤ i) && decide (i < t + d)))) ((j + 1 : Nat) : Int) := by
  have hb := (sE_pos' l[j] (hok _ (List.getElem_mem _)))
  intro d
  induction d with
  | zero =>
    intro k t q ht hk
    obtain ⟨k, rfl⟩ : ∃ m, k = m + 1 := ⟨k - 1, by omega⟩
    rw [spec_covered.l1, if_pos (by omega), if_pos (by omega), rdP47_nat l j hj, IntWalk.wrap64_in (l[j].f0 + l[j].f1) (by omega), if_neg (by omega), step_nat j (by omega)]
    rw [covL_congr q (fun i => q i || (decide (t ≤ i) && decide (i < t + 0))) (fun i _ => by
      by_cases h : t ≤ i
      · rw [decide_eq_false (show ¬ i < t + 0 by omega), Bool.and_false, Bool.or_false]
      · rw [decide_eq_false h, Bool.false_and, Bool.or_false])]
    rfl
  | succ d ih =>
    intro k t q ht hk
    obtain ⟨k, rfl⟩ : ∃ m, k = m + 1 := ⟨k - 1, by omega⟩
    rw [spec_covered.l1, if_pos (by omega), if_pos (by omega), rdP47_nat l j hj, IntWalk.wrap64_in (l[j].f0 + l[j].f1) (by omega), if_pos (by omega), if_pos (by omega), if_pos (by rw [covL_length]; omega), step_nat t (by omega), Int.toNat_natCast, covL_set q t (by omega), ih k (t + 1) _ (by omega) (by omega)]
    rw [show k + 1 - (d + 1) - 1 = k - d - 1 by omega]
    rw [covL_congr (fun i => (q i || decide (i = t)) || (decide (t + 1 ≤ i) && decide (i < t + 1 + d))) (fun i => q i || (decide (t ≤ i) && decide (i < t + (d + 1)))) (fun i _ => by
      show ((q i || decide (i = t)) || (decide (t + 1 ≤ i) && decide (i < t + 1 + d))) = (q i || (decide (t ≤ i) && decide (i < t + (d + 1))))
      rw [Bool.or_assoc]
      congr 1
      rw [← Bool.decide_and, ← Bool.decide_and, ← Bool.decide_or]
      exact decide_eq_decide.mpr (by omega))]

theorem cov_l0 (l : List S47) (hl : l.length ≤ 20) (hok : ∀ x ∈ l, okP1 x = true) : ∀ (d k j : Nat) (q : Nat → Bool), j + d = l.length → 62 * d + 1 ≤ k →
    spec_covered.l0 k l (covL q) (j : Int) = some (covL (fun i => q i || (l.drop j).any (hand_covP (i : Int)))) := by
  intro d
  induction d with
  | zero =>
    intro k j q hj hk
    obtain ⟨k, rfl⟩ : ∃ m, k = m + 1 := ⟨k - 1, by omega⟩
    rw [spec_covered.l0, if_neg (show ¬ (j : Int) < (l.length : Int) by omega), List.drop_eq_nil_of_le (by omega)]
    congr 1
    apply covL_congr
    intro i _
    show q i = (q i || [].any (hand_covP (i : Int)))
    rw [List.any_nil, Bool.or_false]
  | succ d ih =>
    intro k j q hj hk
    obtain ⟨k, rfl⟩ : ∃ m, k = m + 1 := ⟨k - 1, by omega⟩
    have hjl : j < l.length := by omega
    have hb := (sE_pos' l[j] (hok _ (List.getElem_mem _)))
    have h0 : l[j].f0 = ((l[j].f0.toNat : Nat) : Int) := by omega
    have h1 : l[j].f0 + l[j].f1 = ((l[j].f0.toNat + l[j].f1.toNat : Nat) : Int) := by omega
    have e1 := cov_l1 l hl hok j hjl l[j].f1.toNat k l[j].f0.toNat q h1 (by omega)
    rw [← h0] at e1
    rw [spec_covered.l0, if_pos (show (j : Int) < (l.length : Int) by omega), if_pos (by omega), rdP47_nat l j hjl, e1, ih _ (j + 1) _ (by omega) (by omega), List.drop_eq_getElem_cons hjl]
    congr 1
    apply covL_congr
    intro i _
    show ((q i || (decide (l[j].f0.toNat ≤ i) && decide (i < l[j].f0.toNat + l[j].f1.toNat))) || (l.drop (j + 1)).any (hand_covP (i : Int))) = (q i || (l[j] :: l.drop (j + 1)).any (hand_covP (i : Int)))
    rw [List.any_cons, Bool.or_assoc]
    congr 2
    unfold hand_covP
    rw [IntWalk.wrap64_in (l[j].f0 + l[j].f1) (by omega)]
    congr 1
    · exact decide_eq_decide.mpr (by omega)
    · exact decide_eq_decide.mpr (by omega)

theorem cov_ok (l : List S47) (hok : okP l = true) (k : Nat) (hk : 1300 ≤ k) : spec_covered.f k l = some (covL (fun i => l.any (hand_covP (i : Int)))) := by
  unfold okP at hok
  rw [Bool.and_eq_true, List.all_eq_true, decide_eq_true_eq] at hok
  unfold spec_covered.f
  have e : List.replicate 60 false = covL (fun _ => false) := by decide
  have h := cov_l0 l hok.2 hok.1 l.length k 0 (fun _ => false) (by omega) (by omega)
  rw [show ((0 : Nat) : Int) = 0 from rfl, List.drop_zero] at h
  rw [if_pos (by omega), e, h]
  rfl

theorem specHoles_l1 (n : Nat) (hn : n ≤ 60) (q : Nat → Bool) : ∀ (d k i z : Nat) (o : List S47), i + d = n → z ≤ i → o.length ≤ i → 4 * d + 4 ≤ k →
    spec_holes.l1 k (n : Int) (covL q) o ((i - z : Nat) : Int) (z : Int) = some (o ++ (canon (fun j => !(q j)) d i z).map (pcM (n : Int))) := by
  have hfin : ∀ (k i z : Nat) (o : List S47), i ≤ n → z ≤ i → o.length ≤ i →
      (if (z : Int) > 0 then (if o.length < 5864062014805 then (spec_holes.l0 k (n : Int) (covL q) (o ++ [(⟨((i - z : Nat) : Int), (z : Int), decide ((wrap64 (((i - z : Nat) : Int) + (z : Int))) < (n : Int))⟩ : S47)]) (wrap64 (((i - z : Nat) : Int) + (mx (z : Int) 1)))) else (none)) else (spec_holes.l0 k (n : Int) (covL q) o (wrap64 (((i - z : Nat) : Int) + (mx (z : Int) 1)))))
      = (if z = 0 then spec_holes.l0 k (n : Int) (covL q) o ((i + 1 : Nat) : Int) else spec_holes.l0 k (n : Int) (covL q) (o ++ [pcM (n : Int) (i - z, z)]) (i : Int)) := by
    intro k i z o hi hz ho
    have hw : wrap64 (((i - z : Nat) : Int) + (z : Int)) = ((i - z : Nat) : Int) + (z : Int) := IntWalk.wrap64_in _ (by omega)
    by_cases h : z = 0
    · rw [if_pos h, if_neg (show ¬ (z : Int) > 0 by omega)]
      have hm : mx (z : Int) 1 = 1 := by unfold mx; rw [if_pos (by omega)]
      rw [hm, IntWalk.wrap64_in _ (by omega), show ((i - z : Nat) : Int) + 1 = ((i + 1 : Nat) : Int) by omega]
    · rw [if_neg h, if_pos (show (z : Int) > 0 by omega), if_pos (show o.length < 5864062014805 by omega)]
      have hm : mx (z : Int) 1 = (z : Int) := by unfold mx; rw [if_neg (by omega)]
      rw [hm, hw]
      unfold pcM
      rw [show ((i - z : Nat) : Int) + (z : Int) = (i : Int) by omega]
  have hl0 : ∀ (d : Nat), (∀ (k i z : Nat) (o : List S47), i + d = n → z ≤ i → o.length ≤ i → 4 * d + 4 ≤ k → spec_holes.l1 k (n : Int) (covL q) o ((i - z : Nat) : Int) (z : Int) = some (o ++ (canon (fun j => !(q j)) d i z).map (pcM (n : Int)))) →
      ∀ (k i : Nat) (o : List S47), i + d = n → o.length ≤ i → 4 * d + 5 ≤ k → spec_holes.l0 k (n : Int) (covL q) o (i : Int) = some (o ++ (canon (fun j => !(q j)) d i 0).map (pcM (n : Int))) := by
    intro d ih k i o hi ho hk
    obtain ⟨k, rfl⟩ : ∃ m, k = m + 1 := ⟨k - 1, by omega⟩
    rw [spec_holes.l0]
    by_cases h : (i : Int) < (n : Int)
    · rw [if_pos h]
      exact ih k i 0 o hi (by omega) ho (by omega)
    · rw [if_neg h]
      have e : d = 0 := by omega
      subst e
      rw [canon, if_pos rfl, List.map_nil, List.append_nil]
  intro d
  induction d with
  | zero =>
    intro k i z o hi hz ho hk
    obtain ⟨k, rfl⟩ : ∃ m, k = m + 2 := ⟨k - 2, by omega⟩
    have hw : wrap64 (((i - z : Nat) : Int) + (z : Int)) = ((i - z : Nat) : Int) + (z : Int) := IntWalk.wrap64_in _ (by omega)
    rw [spec_holes.l1, if_neg (by rw [hw]; omega), hfin (k + 1) i z o (by omega) hz ho, canon]
    by_cases h : z = 0
    · rw [if_pos h, if_pos h, spec_holes.l0, if_neg (by omega), List.map_nil, List.append_nil]
    · rw [if_neg h, if_neg h, spec_holes.l0, if_neg (by omega)]
      rfl
  | succ d ih =>
    intro k i z o hi hz ho hk
    obtain ⟨k, rfl⟩ : ∃ m, k = m + 3 := ⟨k - 3, by omega⟩
    have hw : wrap64 (((i - z : Nat) : Int) + (z : Int)) = (i : Int) := (IntWalk.wrap64_in _ (by omega)).trans (by omega)
    have hg : rdOf false (covL q) (i : Int) = q i := by
      rw [rdOf_nat _ i (by rw [covL_length]; omega), covL_get]
    have hnext := hl0 d ih
    have eq1 : spec_holes.l1 (k + 3) (n : Int) (covL q) o ((i - z : Nat) : Int) (z : Int) = (if q i = true then (if z = 0 then spec_holes.l0 (k + 2) (n : Int) (covL q) o ((i + 1 : Nat) : Int) else spec_holes.l0 (k + 2) (n : Int) (covL q) (o ++ [pcM (n : Int) (i - z, z)]) (i : Int)) else spec_holes.l1 (k + 2) (n : Int) (covL q) o ((i - z : Nat) : Int) ((z + 1 : Nat) : Int)) := by
      rw [spec_holes.l1, hfin (k + 2) i z o (by omega) hz ho, hw, if_pos (by omega), if_pos (by omega), if_pos (by rw [covL_length]; omega), hg, step_nat z (by omega)]
    rw [eq1, canon]
    cases hq : q i with
    | false =>
      rw [if_neg Bool.false_ne_true, Bool.not_false, if_pos rfl]
      have := ih (k + 2) (i + 1) (z + 1) o (by omega) (by omega) (by omega) (by omega)
      rw [show i + 1 - (z + 1) = i - z by omega] at this
      exact this
    | true =>
      rw [if_pos rfl, Bool.not_true, if_neg Bool.false_ne_true]
      by_cases h : z = 0
      · rw [if_pos h, if_pos h]
        exact hnext (k + 2) (i + 1) o (by omega) (by omega) (by omega)
      · rw [if_neg h, if_neg h]
        obtain ⟨k, rfl⟩ : ∃ m, k = m + 1 := ⟨k - 1, by omega⟩
        have hlo : (o ++ [pcM (n : Int) (i - z, z)]).length ≤ i + 1 := by rw [List.length_append, List.length_singleton]; omega
        have hlo2 : (o ++ [pcM (n : Int) (i - z, z)]).length ≤ i + 1 := hlo
        rw [show k + 1 + 2 = (k + 2) + 1 from rfl, spec_holes.l0, if_pos (show (i : Int) < (n : Int) by omega)]
        have hw0 : wrap64 ((i : Int) + 0) = (i : Int) := (IntWalk.wrap64_in _ (by omega)).trans (by omega)
        have hm : mx (0 : Int) 1 = 1 := rfl
        rw [show k + 2 = (k + 1) + 1 from rfl, spec_holes.l1, hw0, if_pos (show (i : Int) < (n : Int) by omega), if_pos (show (0 : Int) ≤ (i : Int) by omega), if_pos (show (i : Int) < ((covL q).length : Int) by rw [covL_length]; omega), hg, hq, if_pos rfl, if_neg (show ¬ (0 : Int) > 0 by omega), hm, step_nat i (by omega), hnext (k + 1) (i + 1) _ (by omega) hlo (by omega), List.map_cons, List.append_assoc]
        rfl

theorem specHolesI_ok (l : List S47) (hok : okP l = true) (n : Int) (h1 : 1 ≤ n) (h2 : n ≤ 60) (k : Nat) (hk : 1300 ≤ k) : spec_holes.f k l n = some (holesM l n) := by
  obtain ⟨m, rfl⟩ := Int.eq_ofNat_of_zero_le (show 0 ≤ n by omega)
  obtain ⟨k, rfl⟩ : ∃ j, k = j + 1 := ⟨k - 1, by omega⟩
  unfold spec_holes.f holesM
  rw [if_pos ⟨hok, h1, h2⟩, cov_ok l hok (k + 1) hk, Option.bind_some, spec_holes.l0, if_pos (by omega), Int.toNat_natCast]
  have h := specHoles_l1 m (by omega) (fun i => l.any (hand_covP (i : Int))) m k 0 0 [] (by omega) (by omega) (by simp) (by omega)
  exact h

theorem specHoles_ok (l : List S47) (hl : l.length ≤ 2000000) (n : Int) (k : Nat) (hk : 1300 + l.length ≤ k) : spec_HolesOf.f k l n = some (holesM l n) := by
  unfold spec_HolesOf.f
  rw [specVP_ok l hl k (by omega), Option.bind_some]
  by_cases h : okP l = true
  · rw [if_pos h, inRange_val, Option.bind_some]
    by_cases h2 : 1 ≤ n ∧ n ≤ 60
    · rw [decide_eq_true h2, if_pos rfl, specHolesI_ok l h n h2.1 h2.2 k (by omega), Option.bind_some]
    · rw [decide_eq_false h2, if_neg Bool.false_ne_true]
      unfold holesM
      rw [if_neg (fun h3 => h2 h3.2)]
  · rw [if_neg h]
    unfold holesM
    rw [if_neg (fun h3 => h h3.1)]

theorem canon_sep (h : Nat → Bool) : ∀ (d i z : Nat), z ≤ i → (canon h d i z).Pairwise (fun a b => a.1 + a.2 < b.1) := by
  intro d
  induction d with
  | zero =>
    intro i z hz
    rw [canon]
    by_cases h0 : z = 0
    · rw [if_pos h0]; exact List.Pairwise.nil
    · rw [if_neg h0]; exact List.pairwise_singleton _ _
  | succ d ih =>
    intro i z hz
    rw [canon]
    by_cases h1 : h i = true
    · rw [if_pos h1]; exact ih (i + 1) (z + 1) (by omega)
    · rw [if_neg h1]
      by_cases h0 : z = 0
      · rw [if_pos h0]; exact ih (i + 1) 0 (by omega)
      · rw [if_neg h0, List.pairwise_cons]
        refine ⟨fun q hq => ?_, ih (i + 1) 0 (by omega)⟩
        have := canon_bound h d (i + 1) 0 (by omega) q hq
        show i - z + z < q.1
        omega

theorem canon_full (h : Nat → Bool) : ∀ (d i z : Nat), z ≤ i → ∀ j, ((i - z ≤ j ∧ j < i) ∨ (i ≤ j ∧ j < i + d ∧ h j = true)) → ∃ q ∈ canon h d i z, q.1 ≤ j ∧ j < q.1 + q.2 := by
  intro d
  induction d with
  | zero =>
    intro i z hz j hj
    rw [canon, if_neg (by omega)]
    exact ⟨_, List.mem_singleton.2 rfl, (by show i - z ≤ j; omega), (by show j < i - z + z; omega)⟩
  | succ d ih =>
    intro i z hz j hj
    rw [canon]
    by_cases h1 : h i = true
    · rw [if_pos h1]
      refine ih (i + 1) (z + 1) (by omega) j ?_
      rcases hj with hj | ⟨h2, h3, h4⟩
      · exact .inl ⟨by omega, by omega⟩
      · by_cases e : j = i
        · exact .inl ⟨by omega, by omega⟩
        · exact .inr ⟨by omega, by omega, h4⟩
    · rw [if_neg h1]
      have hne : ∀ (h2 : i ≤ j) (h4 : h j = true), i + 1 ≤ j := fun h2 h4 => by
        by_cases e : j = i
        · rw [e] at h4; exact absurd h4 h1
        · omega
      by_cases h0 : z = 0
      · rw [if_pos h0]
        refine ih (i + 1) 0 (by omega) j ?_
        rcases hj with hj | ⟨h2, h3, h4⟩
        · omega
        · exact .inr ⟨hne h2 h4, by omega, h4⟩
      · rw [if_neg h0]
        rcases hj with hj | ⟨h2, h3, h4⟩
        · exact ⟨_, List.mem_cons_self .., (by show i - z ≤ j; omega), (by show j < i - z + z; omega)⟩
        · obtain ⟨q, hq, g⟩ := ih (i + 1) 0 (by omega) j (.inr ⟨hne h2 h4, by omega, h4⟩)
          exact ⟨q, List.mem_cons_of_mem _ hq, g⟩

theorem canon_nil (h : Nat → Bool) : ∀ (d i : Nat), (∀ j, i ≤ j → j < i + d → h j = false) → canon h d i 0 = [] := by
  intro d
  induction d with
  | zero => intro i _; rw [canon, if_pos rfl]
  | succ d ih =>
    intro i hj
    rw [canon, if_neg (by rw [hj i (by omega) (by omega)]; decide), if_pos rfl]
    exact ih (i + 1) (fun j h1 h2 => hj j (by omega) (by omega))

theorem equalPieces_l0 (a : List S47) (hl : a.length ≤ 2000000) : ∀ (d k i : Nat), i + d = a.length → d < k → laws_equalPieces.l0 k a a (i : Int) = some true := by
  intro d
  induction d with
  | zero =>
    intro k i hi hk
    obtain ⟨k, rfl⟩ : ∃ m, k = m + 1 := ⟨k - 1, by omega⟩
    rw [laws_equalPieces.l0, if_neg (by omega)]
  | succ d ih =>
    intro k i hi hk
    obtain ⟨k, rfl⟩ : ∃ m, k = m + 1 := ⟨k - 1, by omega⟩
    rw [laws_equalPieces.l0, if_pos (by omega), if_pos (by omega), if_pos (by omega), step_nat i (by omega), ih k (i + 1) (by omega) (by omega), beq_self_eq_true, beq_self_eq_true, beq_self_eq_true]
    rfl

theorem equalPieces_self (a : List S47) (hl : a.length ≤ 2000000) (k : Nat) (hk : a.length < k) : laws_equalPieces.f k a a = some true := by
  unfold laws_equalPieces.f
  rw [if_pos rfl]
  exact equalPieces_l0 a hl a.length k 0 (by omega) hk

theorem cut_part (room unit : Int) (h1 : 1 ≤ unit) (h2 : unit ≤ 8) (h3 : unit ≤ room) (h4 : room ≤ 60) :
    ∃ p, wrap64 ((wrap64 (Int.tdiv room unit)) * unit) = p ∧ 1 ≤ p ∧ p ≤ room := by
  have e : Int.tdiv room unit = room / unit := Int.tdiv_eq_ediv_of_nonneg (by omega)
  have d0 : 0 ≤ room / unit := Int.ediv_nonneg (by omega) (by omega)
  have d1 : 1 ≤ room / unit := (Int.le_ediv_iff_mul_le (by omega)).2 (by omega)
  have d2 : room / unit ≤ room := Int.ediv_le_self _ (by omega)
  have m1 : room / unit * unit ≤ room := Int.ediv_mul_le _ (by omega)
  have m0 : 1 * 1 ≤ room / unit * unit := Int.mul_le_mul d1 h1 (by omega) (by omega)
  rw [e, IntWalk.wrap64_in (room / unit) (by omega)]
  generalize room / unit * unit = p at m0 m1
  exact ⟨p, IntWalk.wrap64_in p (by omega), by omega, by omega⟩

theorem scut_loop (n room unit : Int) (hn : 1 ≤ n) (hn' : n ≤ 60) (h1 : 1 ≤ unit) (h2 : unit ≤ 8) (h3 : unit ≤ room) (h4 : room ≤ 60) :
    ∀ (d k' : Nat) (at' : Int) (o : List S47), 0 ≤ at' → at' < n → n - at' ≤ d → (o.length : Int) ≤ at' → d + 2 < k' →
    ∃ r, spec_CutLength.l0 k' n room unit o at' = some r ∧ r.1.length ≤ 20 := by
  obtain ⟨p, hp, hp1, hp2⟩ := cut_part room unit h1 h2 h3 h4
  intro d
  induction d with
  | zero => intro k' at' o h5 h6 h7; omega
  | succ d ih =>
    intro k' at' o h5 h6 h7 h8 hk'
    obtain ⟨k', rfl⟩ : ∃ m, k' = m + 1 := ⟨k' - 1, by omega⟩
    have hw : wrap64 (n - at') = n - at' := IntWalk.wrap64_in _ (by omega)
    rw [spec_CutLength.l0, hp, hw, if_pos h6]
    by_cases h9 : n - at' > room
    · have hq : wrap64 (at' + p) = at' + p := IntWalk.wrap64_in _ (by omega)
      rw [if_pos h9, if_neg (show ¬ unit = 0 by omega), if_pos (show o.length < 5864062014805 by omega), hq, decide_eq_true (show at' + p < n by omega)]
      refine ih k' (at' + p) _ (by omega) (by omega) (by omega) ?_ (by omega)
      rw [List.length_append]; simp only [List.length_cons, List.length_nil]; omega
    · have hq : wrap64 (at' + (n - at')) = n := (IntWalk.wrap64_in _ (by omega)).trans (by omega)
      rw [if_neg h9, if_pos (show o.length < 5864062014805 by omega), hq, decide_eq_false (show ¬ n < n by omega)]
      obtain ⟨k', rfl⟩ : ∃ m, k' = m + 1 := ⟨k' - 1, by omega⟩
      rw [spec_CutLength.l0, if_neg (show ¬ n < n by omega)]
      generalize o ++ [(⟨at', n - at', false⟩ : S47)] = y
      by_cases h10 : (y.length : Int) > 20
      · rw [if_pos h10]; exact ⟨_, rfl, by simp⟩
      · rw [if_neg h10]; exact ⟨_, rfl, by show y.length ≤ 20; omega⟩

theorem scut_ok (a b c : Int) (k : Nat) (hk : 100 ≤ k) : ∃ r, spec_CutLength.f k a b c = some r ∧ r.1.length ≤ 20 := by
  by_cases h : (1 ≤ a ∧ a ≤ 60) ∧ (1 ≤ c ∧ c ≤ 8) ∧ (c ≤ b ∧ b ≤ 60)
  · obtain ⟨k, rfl⟩ : ∃ m, k = m + 1 := ⟨k - 1, by omega⟩
    obtain ⟨r, e1, e2⟩ := scut_loop a b c h.1.1 h.1.2 h.2.1.1 h.2.1.2 h.2.2.1 h.2.2.2 60 k 0 [] (by omega) (by omega) (by omega) (by simp) (by omega)
    refine ⟨r, ?_, e2⟩
    unfold spec_CutLength.f
    rw [inRange_val, inRange_val, inRange_val, Option.bind_some, decide_eq_true h.1, if_pos rfl, Option.bind_some, decide_eq_true h.2.1, if_pos rfl, Option.bind_some, decide_eq_true h.2.2]
    simp only [spec_CutLength.j0, Bool.not_true, Bool.false_eq_true, if_false]
    exact e1
  · refine ⟨([], false), ?_, by simp⟩
    obtain ⟨k, rfl⟩ : ∃ m, k = m + 1 := ⟨k - 1, by omega⟩
    unfold spec_CutLength.f
    rw [inRange_val, inRange_val, inRange_val]
    simp only [Option.bind_some]
    by_cases q1 : 1 ≤ a ∧ a ≤ 60
    · rw [decide_eq_true q1, if_pos rfl]
      by_cases q2 : 1 ≤ c ∧ c ≤ 8
      · rw [decide_eq_true q2, if_pos rfl, decide_eq_false (fun q3 => h ⟨q1, q2, q3⟩)]
        simp only [spec_CutLength.j0, Bool.not_false, if_true]
      · rw [decide_eq_false q2, if_neg Bool.false_ne_true]
        simp only [spec_CutLength.j0, if_true]
    · rw [decide_eq_false q1, if_neg Bool.false_ne_true]
      simp only [spec_CutLength.j0, if_true]

theorem xor64_range (a b : Int) (ha : 0 ≤ a) (ha' : a < 1073741824) (hb : 0 ≤ b) (hb' : b < 1073741824) :
    0 ≤ Go.bits .xor .i64 a b ∧ Go.bits .xor .i64 a b < 1073741824 := by
  obtain ⟨m, rfl⟩ := Int.eq_ofNat_of_zero_le ha
  obtain ⟨n, rfl⟩ := Int.eq_ofNat_of_zero_le hb
  have hm : m < 2 ^ 30 := by omega
  have hn : n < 2 ^ 30 := by omega
  have hx : m ^^^ n < 2 ^ 30 := Nat.xor_lt_two_pow hm hn
  have hm' : m % 2 ^ IntKind.i64.bits = m := Nat.mod_eq_of_lt (Nat.lt_of_lt_of_le hm (by decide))
  have hn' : n % 2 ^ IntKind.i64.bits = n := Nat.mod_eq_of_lt (Nat.lt_of_lt_of_le hn (by decide))
  simp only [Go.bits, BitVec.ofInt_natCast, BitVec.toNat_xor, BitVec.toNat_ofNat, hm', hn']
  rw [IntWalk.i64_in ((m ^^^ n : Nat) : Int) (by omega)]
  omega

theorem rd_range (l : List Int) (hl : ∀ x ∈ l, 0 ≤ x ∧ x ≤ 255) (i : Int) : 0 ≤ rd l i ∧ rd l i ≤ 255 := by
  unfold rd
  rw [List.getD_eq_getElem?_getD]
  cases h : l[i.toNat]? with
  | none => simp
  | some v => exact hl v (List.mem_of_getElem? h)

theorem tmod_range (a n : Int) (ha : 0 ≤ a) (hn : 1 ≤ n) : 0 ≤ Int.tmod a n ∧ Int.tmod a n < n :=
  ⟨Int.tmod_nonneg n ha, Int.tmod_lt_of_pos a (by omega)⟩

theorem pick_ok (l : List Int) (hl : ∀ x ∈ l, 0 ≤ x ∧ x ≤ 255) (hn : l.length ≤ 2000) (k : Nat) (p n : Int) (hp : 0 ≤ p) (hp' : p ≤ 1000000) :
    ∃ v, spec_reader_pick.f (k + 1) l p n = some (v, p + 1) ∧ 0 ≤ v ∧ (1 ≤ n → v < n) := by
  have hw : wrap64 (p + 1) = p + 1 := IntWalk.wrap64_in _ (by omega)
  unfold spec_reader_pick.f
  rw [hw]
  by_cases h1 : n < 1
  · rw [if_pos h1]
    exact ⟨0, by simp [spec_reader_pick.j0], by omega, fun h => by omega⟩
  · rw [if_neg h1]
    by_cases h2 : l.length = 0
    · exact ⟨0, by simp [spec_reader_pick.j0, h2], by omega, fun h => by omega⟩
    · have hb : ((l.length : Int) == 0) = false := beq_eq_false_iff_ne.mpr (by omega)
      have hw1 : wrap64 (p + 1 - 1) = p := (IntWalk.wrap64_in (p + 1 - 1) (by omega)).trans (by omega)
      have hn0 : n ≠ 0 := by omega
      have hl0 : (l.length : Int) ≠ 0 := by omega
      simp only [spec_reader_pick.j0, hb, hw1, Bool.false_eq_true, if_false, hn0, hl0]
      by_cases h3 : p < (l.length : Int)
      · rw [if_pos h3, if_pos hp]
        have hr := rd_range l hl p
        rw [IntWalk.wrap64_in (rd l p) (by omega)]
        have ht := tmod_range (rd l p) n hr.1 (by omega)
        exact ⟨_, rfl, ht.1, fun _ => ht.2⟩
      · rw [if_neg h3]
        have hm1 := tmod_range p (l.length : Int) hp (by omega)
        rw [if_pos hm1.1, if_pos hm1.2]
        have hw7 : wrap64 (p * 7) = p * 7 := IntWalk.wrap64_in _ (by omega)
        have hw73 : wrap64 (p * 7 + 3) = p * 7 + 3 := IntWalk.wrap64_in _ (by omega)
        rw [hw7, hw73]
        have hm2 := tmod_range (p * 7 + 3) (l.length : Int) (by omega) (by omega)
        rw [if_pos hm2.1, if_pos hm2.2]
        have hr1 := rd_range l hl (Int.tmod p (l.length : Int))
        have hr2 := rd_range l hl (Int.tmod (p * 7 + 3) (l.length : Int))
        generalize rd l (Int.tmod p (l.length : Int)) = r1 at hr1 ⊢
        generalize rd l (Int.tmod (p * 7 + 3) (l.length : Int)) = r2 at hr2 ⊢
        have hq : 0 ≤ Int.tdiv p (l.length : Int) ∧ Int.tdiv p (l.length : Int) ≤ p := by
          rw [Int.tdiv_eq_ediv_of_nonneg hp]
          exact ⟨Int.ediv_nonneg hp (by omega), Int.ediv_le_self _ hp⟩
        generalize Int.tdiv p (l.length : Int) = q at hq ⊢
        simp (disch := omega) only [IntWalk.wrap64_in]
        have hX : 0 ≤ r1 * 131 + r2 * 1117 + p * 29 + q * 53 ∧ r1 * 131 + r2 * 1117 + p * 29 + q * 53 < 1073741824 := by omega
        generalize r1 * 131 + r2 * 1117 + p * 29 + q * 53 = X at hX ⊢
        have hd : 0 ≤ Int.tdiv X 64 ∧ Int.tdiv X 64 < 1073741824 := by
          rw [Int.tdiv_eq_ediv_of_nonneg hX.1]; omega
        rw [IntWalk.wrap64_in (Int.tdiv X 64) (by omega)]
        have hx := xor64_range X (Int.tdiv X 64) hX.1 hX.2 hd.1 hd.2
        have ht := tmod_range (Go.bits .xor .i64 X (Int.tdiv X 64)) n hx.1 (by omega)
        exact ⟨_, rfl, ht.1, fun _ => ht.2⟩

theorem reader_ok (l0 : List Int) (hw : ∀ x ∈ l0, (Lit.int .u8 x).wf = true) :
    ∃ l, spec_newReader.f l0 = some (l, 0) ∧ (∀ x ∈ l, 0 ≤ x ∧ x ≤ 255) ∧ l.length ≤ 2000 := by
  have hb : ∀ x ∈ l0, 0 ≤ x ∧ x ≤ 255 := by
    intro x hx
    have h := hw x hx
    simp [Lit.wf, IntKind.min, IntKind.max, IntKind.signed, IntKind.bits] at h
    omega
  unfold spec_newReader.f
  by_cases h : (l0.length : Int) > 2000
  · rw [if_pos h, if_pos (by omega)]
    exact ⟨_, rfl, fun x hx => hb x (List.mem_of_mem_take hx), by rw [List.length_take]; omega⟩
  · rw [if_neg h]
    exact ⟨_, rfl, hb, by omega⟩

theorem one_ok (l : List Int) (hl : ∀ x ∈ l, 0 ≤ x ∧ x ≤ 255) (hn : l.length ≤ 2000) (k : Nat) (p : Int) (xs : List Int) (hp : 0 ≤ p) (hp' : p ≤ 1000000) (hx : 1 ≤ xs.length) :
    ∃ v, spec_reader_one.f (k + 1) l p xs = some (v, p + 1) ∧ v ∈ xs := by
  obtain ⟨v, hv, h0, h1⟩ := pick_ok l hl hn k p (xs.length : Int) hp hp'
  have h2 := h1 (by omega)
  unfold spec_reader_one.f
  rw [hv]
  simp only [Option.bind_some]
  rw [if_pos h0, if_pos h2]
  refine ⟨_, rfl, ?_⟩
  unfold rd
  have h3 : v.toNat < xs.length := by omega
  rw [List.getD_eq_getElem?_getD, List.getElem?_eq_getElem h3]
  exact List.getElem_mem h3

theorem sp_j5 (l : List Int) (hb : ∀ x ∈ l, 0 ≤ x ∧ x ≤ 255) (hn : l.length ≤ 2000) (k : Nat) (hk : 2 ≤ k) (x : List S47) (p : Int) (hp : 0 ≤ p) (hp' : p ≤ 100000) :
    ∃ o p', spec_somePieces.j5 k x l p = some (o, p') ∧ o.length = x.length ∧ p ≤ p' ∧ p' ≤ p + 2 := by
  obtain ⟨k, rfl⟩ : ∃ m, k = m + 2 := ⟨k - 2, by omega⟩
  rw [spec_somePieces.j5]
  by_cases h : (x.length : Int) > 0
  · obtain ⟨v, hv, _, _⟩ := pick_ok l hb hn k p 24 hp (by omega)
    rw [if_pos h, hv, Option.bind_some]
    show ∃ o p', (if v = 0 then _ else _) = some (o, p') ∧ _
    by_cases e0 : v = 0
    · obtain ⟨u, hu, _⟩ := one_ok l hb hn k (p + 1) [-1, 60, 0] (by omega) (by omega) (by simp)
      rw [if_pos e0, hu, Option.bind_some, if_pos (by omega)]
      exact ⟨_, _, rfl, by rw [List.length_set], by omega, by omega⟩
    · rw [if_neg e0]
      by_cases e1 : v = 1
      · obtain ⟨u, hu, _⟩ := one_ok l hb hn k (p + 1) [0, 61, 2] (by omega) (by omega) (by simp)
        rw [if_pos e1, hu, Option.bind_some, if_pos (by omega)]
        exact ⟨_, _, rfl, by rw [List.length_set], by omega, by omega⟩
      · rw [if_neg e1]
        by_cases e2 : v = 2
        · rw [if_pos e2, if_pos (by omega)]
          exact ⟨_, _, rfl, by rw [List.length_set], by omega, by omega⟩
        · rw [if_neg e2]
          by_cases e3 : v = 3
          · rw [if_pos e3, if_pos (by omega)]
            exact ⟨_, _, rfl, by rw [List.length_set], by omega, by omega⟩
          · rw [if_neg e3]
            exact ⟨_, _, rfl, rfl, by omega, by omega⟩
  · rw [if_neg h]
    exact ⟨_, _, rfl, rfl, by omega, by omega⟩

theorem sp_j4 (l : List Int) (hb : ∀ x ∈ l, 0 ≤ x ∧ x ≤ 255) (hn : l.length ≤ 2000) (k : Nat) (hk : 3 ≤ k) (x : List S47) (b : Bool) (hx : x.length ≤ 100) (hxb : b = true → 1 ≤ x.length) (p : Int) (hp : 0 ≤ p) (hp' : p ≤ 90000) :
    ∃ o p', spec_somePieces.j4 k x b l p = some (o, p') ∧ o.length ≤ x.length + 1 ∧ p ≤ p' ∧ p' ≤ p + 3 := by
  obtain ⟨k, rfl⟩ : ∃ m, k = m + 2 := ⟨k - 2, by omega⟩
  rw [spec_somePieces.j4]
  cases b with
  | true =>
    have hx1 := hxb rfl
    obtain ⟨v, hv, h0, h1⟩ := pick_ok l hb hn k p x.length hp (by omega)
    have h2 := h1 (by omega)
    rw [if_pos rfl, hv, Option.bind_some, if_pos h0, if_pos h2, if_pos (by omega)]
    obtain ⟨o, p', e1, e2, e3, e4⟩ := sp_j5 l hb hn (k + 1) (by omega) (x ++ [(⟨(rd_T47 x v).f0, (rd_T47 x v).f1, (rd_T47 x v).f2⟩ : S47)]) (p + 1) (by omega) (by omega)
    exact ⟨o, p', e1, by rw [e2, List.length_append, List.length_singleton]; omega, by omega, by omega⟩
  | false =>
    obtain ⟨o, p', e1, e2, e3, e4⟩ := sp_j5 l hb hn (k + 1) (by omega) x p (by omega) (by omega)
    rw [if_neg Bool.false_ne_true]
    exact ⟨o, p', e1, by omega, by omega, by omega⟩

theorem sp_j3 (l : List Int) (hb : ∀ x ∈ l, 0 ≤ x ∧ x ≤ 255) (hn : l.length ≤ 2000) (k : Nat) (hk : 4 ≤ k) (x : List S47) (hx : x.length ≤ 100) (p : Int) (hp : 0 ≤ p) (hp' : p ≤ 80000) :
    ∃ o p', spec_somePieces.j3 k x l p = some (o, p') ∧ o.length ≤ x.length + 1 ∧ p ≤ p' ∧ p' ≤ p + 4 := by
  obtain ⟨k, rfl⟩ : ∃ m, k = m + 2 := ⟨k - 2, by omega⟩
  rw [spec_somePieces.j3]
  by_cases h : (x.length : Int) > 0
  · obtain ⟨v, hv, _, _⟩ := pick_ok l hb hn k p 3 hp (by omega)
    rw [if_pos h, hv, Option.bind_some]
    show ∃ o p', (if v = 0 then _ else _) = some (o, p') ∧ _
    by_cases e0 : v = 0
    · rw [if_pos e0]
      obtain ⟨o, p', e1, e2, e3, e4⟩ := sp_j4 l hb hn (k + 1) (by omega) x (decide ((x.length : Int) < 20)) hx (fun _ => by omega) (p + 1) (by omega) (by omega)
      exact ⟨o, p', e1, e2, by omega, by omega⟩
    · rw [if_neg e0]
      obtain ⟨o, p', e1, e2, e3, e4⟩ := sp_j4 l hb hn (k + 1) (by omega) x false hx (fun h => Bool.noConfusion h) (p + 1) (by omega) (by omega)
      exact ⟨o, p', e1, e2, by omega, by omega⟩
  · rw [if_neg h]
    obtain ⟨o, p', e1, e2, e3, e4⟩ := sp_j4 l hb hn (k + 1) (by omega) x false hx (fun h => Bool.noConfusion h) p (by omega) (by omega)
    exact ⟨o, p', e1, e2, by omega, by omega⟩

theorem sp_j2 (l : List Int) (hb : ∀ x ∈ l, 0 ≤ x ∧ x ≤ 255) (hn : l.length ≤ 2000) (k : Nat) (hk : 5 ≤ k) (x : List S47) (b : Bool) (hx : x.length ≤ 50) (hxb : b = true → 1 ≤ x.length) (p : Int) (hp : 0 ≤ p) (hp' : p ≤ 70000) :
    ∃ o p', spec_somePieces.j2 k x b l p = some (o, p') ∧ o.length ≤ x.length + 1 ∧ p ≤ p' ∧ p' ≤ p + 5 := by
  obtain ⟨k, rfl⟩ : ∃ m, k = m + 2 := ⟨k - 2, by omega⟩
  rw [spec_somePieces.j2]
  cases b with
  | true =>
    have hx1 := hxb rfl
    obtain ⟨v, hv, h0, h1⟩ := pick_ok l hb hn k p x.length hp (by omega)
    have h2 := h1 (by omega)
    have hw : wrap64 (v + 1) = v + 1 := IntWalk.wrap64_in _ (by omega)
    rw [if_pos rfl, hv, Option.bind_some]
    simp only [Option.bind_some]
    have ht : (x.take v.toNat).length ≤ x.length := by rw [List.length_take]; omega
    have hd : (x.drop (v + 1).toNat).length + (x.take v.toNat).length ≤ x.length := by rw [List.length_drop, List.length_take]; omega
    rw [if_pos h0, if_pos (by omega), if_pos (by simp only [List.length_nil]; omega), hw, if_pos (by omega), if_pos (by omega), if_pos (by rw [List.length_append, List.length_nil]; omega)]
    obtain ⟨o, p', e1, e2, e3, e4⟩ := sp_j3 l hb hn (k + 1) (by omega) (([] ++ x.take v.toNat) ++ x.drop (v + 1).toNat) (by rw [List.length_append, List.length_append, List.length_nil]; omega) (p + 1) (by omega) (by omega)
    exact ⟨o, p', e1, by rw [List.length_append, List.length_append, List.length_nil] at e2; omega, by omega, by omega⟩
  | false =>
    obtain ⟨o, p', e1, e2, e3, e4⟩ := sp_j3 l hb hn (k + 1) (by omega) x (by omega) p (by omega) (by omega)
    rw [if_neg Bool.false_ne_true]
    exact ⟨o, p', e1, by omega, by omega, by omega⟩

theorem sp_end (l : List Int) (hb : ∀ x ∈ l, 0 ≤ x ∧ x ≤ 255) (hn : l.length ≤ 2000) (k : Nat) (hk : 6 ≤ k) (x : List S47) (n : Int) (hx : x.length ≤ 50) (p : Int) (hp : 0 ≤ p) (hp' : p ≤ 60000) :
    ∃ o p', spec_somePieces.j1 k x n false l p = some (o, p') ∧ o.length ≤ x.length + 1 ∧ p ≤ p' ∧ p' ≤ p + 6 := by
  obtain ⟨k, rfl⟩ : ∃ m, k = m + 2 := ⟨k - 2, by omega⟩
  rw [spec_somePieces.j1, if_neg Bool.false_ne_true]
  by_cases h : (x.length : Int) > 1
  · obtain ⟨v, hv, _, _⟩ := pick_ok l hb hn k p 3 hp (by omega)
    rw [if_pos h, hv, Option.bind_some]
    obtain ⟨o, p', e1, e2, e3, e4⟩ := sp_j2 l hb hn (k + 1) (by omega) x (v == 0) hx (fun _ => by omega) (p + 1) (by omega) (by omega)
    exact ⟨o, p', e1, e2, by omega, by omega⟩
  · rw [if_neg h]
    obtain ⟨o, p', e1, e2, e3, e4⟩ := sp_j2 l hb hn (k + 1) (by omega) x false hx (fun h => Bool.noConfusion h) p (by omega) (by omega)
    exact ⟨o, p', e1, e2, by omega, by omega⟩

theorem sp_l0 (l : List Int) (hb : ∀ x ∈ l, 0 ≤ x ∧ x ≤ 255) (hn : l.length ≤ 2000) : ∀ (d k : Nat) (x : List S47) (n p : Int), x.length ≤ 50 → 0 ≤ n → n ≤ d → n ≤ 100 → 0 ≤ p → p + 2 * d ≤ 50000 → 2 * d + 8 ≤ k →
    ∃ o p', spec_somePieces.l0 k x n l p = some (o, p') ∧ o.length ≤ x.length + 1 ∧ p ≤ p' ∧ p' ≤ p + 2 * d + 6 := by
  intro d
  induction d with
  | zero =>
    intro k x n p hx h0 h1 h2 h3 h4 hk
    obtain ⟨k, rfl⟩ : ∃ m, k = m + 2 := ⟨k - 2, by omega⟩
    obtain ⟨o, p', e1, e2, e3, e4⟩ := sp_end l hb hn (k + 1) (by omega) x n hx p (by omega) (by omega)
    rw [spec_somePieces.l0, if_neg (by omega)]
    exact ⟨o, p', e1, e2, by omega, by omega⟩
  | succ d ih =>
    intro k x n p hx h0 h1 h2 h3 h4 hk
    obtain ⟨k, rfl⟩ : ∃ m, k = m + 3 := ⟨k - 3, by omega⟩
    rw [spec_somePieces.l0]
    by_cases hn0 : n > 0
    · rw [if_pos hn0]
      by_cases hx1 : (x.length : Int) > 1
      · obtain ⟨v, hv, v0, v1⟩ := pick_ok l hb hn k p x.length h3 (by omega)
        obtain ⟨u, hu, u0, u1⟩ := pick_ok l hb hn k (p + 1) x.length (by omega) (by omega)
        rw [decide_eq_true hx1, spec_somePieces.j1, if_pos rfl, hv, Option.bind_some]
        simp only [hu, Option.bind_some]
        rw [if_pos v0, if_pos (v1 (by omega)), if_pos u0, if_pos (u1 (by omega)), IntWalk.wrap64_in (n - 1) (by omega)]
        have key : ∀ z : List S47, z.length = x.length → ∃ o p', spec_somePieces.l0 (k + 1) z (n - 1) l (p + 1 + 1) = some (o, p') ∧ o.length ≤ x.length + 1 ∧ p ≤ p' ∧ p' ≤ p + 2 * ((d + 1 : Nat) : Int) + 6 := by
          intro z hz
          obtain ⟨o, p', e1, e2, e3, e4⟩ := ih (k + 1) z (n - 1) (p + 1 + 1) (by omega) (by omega) (by omega) (by omega) (by omega) (by omega) (by omega)
          exact ⟨o, p', e1, by omega, by omega, by omega⟩
        exact key _ (by rw [List.length_set, List.length_set])
      · rw [decide_eq_false hx1]
        obtain ⟨o, p', e1, e2, e3, e4⟩ := sp_end l hb hn (k + 2) (by omega) x n hx p (by omega) (by omega)
        exact ⟨o, p', e1, e2, by omega, by omega⟩
    · rw [if_neg hn0]
      obtain ⟨o, p', e1, e2, e3, e4⟩ := sp_end l hb hn (k + 2) (by omega) x n hx p (by omega) (by omega)
      exact ⟨o, p', e1, e2, by omega, by omega⟩

theorem somePieces_ok (l : List Int) (hb : ∀ x ∈ l, 0 ≤ x ∧ x ≤ 255) (hn : l.length ≤ 2000) (k : Nat) (hk : 100 ≤ k) :
    ∃ o p', spec_somePieces.f k l 0 = some (o, p') ∧ o.length ≤ 21 ∧ 0 ≤ p' ∧ p' ≤ 100 := by
  obtain ⟨k, rfl⟩ : ∃ m, k = m + 1 := ⟨k - 1, by omega⟩
  obtain ⟨a, ha, _⟩ := one_ok l hb hn k 0 [20, 12, 30, 8, 1, 60] (by omega) (by omega) (by simp)
  obtain ⟨b, hb1, _⟩ := one_ok l hb hn k (0 + 1) [4, 8, 6, 3, 12] (by omega) (by omega) (by simp)
  obtain ⟨c, hc, _⟩ := one_ok l hb hn k (0 + 1 + 1) [1, 2, 1, 3] (by omega) (by omega) (by simp)
  obtain ⟨d, hd, hm⟩ := one_ok l hb hn k (0 + 1 + 1 + 1) [0, 2, 4, 1] (by omega) (by omega) (by simp)
  obtain ⟨r, hr, hl⟩ := scut_ok a b c (k + 1) hk
  simp only [List.mem_cons, List.not_mem_nil, or_false] at hm
  unfold spec_somePieces.f
  simp only [ha, hb1, hc, hd, hr, Option.bind_some]
  rw [if_pos (by simp only [List.length_nil]; omega)]
  obtain ⟨o, p', e1, e2, e3, e4⟩ := sp_l0 l hb hn 4 (k + 1) ([] ++ r.1) d (0 + 1 + 1 + 1 + 1) (by rw [List.nil_append]; omega) (by omega) (by omega) (by omega) (by omega) (by omega) (by omega)
  exact ⟨o, p', e1, by rw [List.nil_append] at e2; omega, by omega, by omega⟩

theorem holes_fill (l : List S47) (n : Nat) (hn : n ≤ 60) : (holesM (l ++ (canon (holeH l) n 0 0).map (pcM (n : Int))) (n : Int)).length = 0 := by
  unfold holesM
  by_cases h : okP (l ++ (canon (holeH l) n 0 0).map (pcM (n : Int))) = true ∧ 1 ≤ (n : Int) ∧ (n : Int) ≤ 60
  · rw [if_pos h, Int.toNat_natCast, canon_nil]
    · rfl
    · intro j _ hj
      have hj' : j < n := by omega
      show (!((l ++ (canon (holeH l) n 0 0).map (pcM (n : Int))).any (hand_covP (j : Int)))) = false
      rw [List.any_append]
      cases ha : l.any (hand_covP (j : Int)) with
      | true => rfl
      | false =>
        obtain ⟨q, hq, g1, g2⟩ := canon_full (holeH l) n 0 0 (by omega) j (.inr ⟨by omega, by omega, by show (!(l.any (hand_covP (j : Int)))) = true; rw [ha]; rfl⟩)
        have hb := canon_bound (holeH l) n 0 0 (by omega) q hq
        have hany : ((canon (holeH l) n 0 0).map (pcM (n : Int))).any (hand_covP (j : Int)) = true := by
          rw [List.any_eq_true]
          refine ⟨pcM (n : Int) q, List.mem_map_of_mem hq, ?_⟩
          show (decide ((q.1 : Int) ≤ (j : Int)) && decide ((j : Int) < wrap64 ((q.1 : Int) + (q.2 : Int)))) = true
          rw [IntWalk.wrap64_in _ (by omega), decide_eq_true (by omega), decide_eq_true (by omega)]
          rfl
        rw [hany]
        rfl
  · rw [if_neg h]
    rfl

theorem holesLaw_l0 (l : List S47) (hl : l.length ≤ 21) (n : Nat) (h1 : 1 ≤ n) (hn : n ≤ 60) : ∀ (d k i : Nat), i + d = (canon (holeH l) n 0 0).length → d + 110 ≤ k →
    laws_FnHolesOf.l0 k l (n : Int) ((canon (holeH l) n 0 0).map (pcM (n : Int))) (i : Int) = some true := by
  have hlen := canon_len (holeH l) n 0 0
  have hsep := canon_sep (holeH l) n 0 0 (by omega)
  have hbd := canon_bound (holeH l) n 0 0 (by omega)
  have hfill := holes_fill l n hn
  generalize canon (holeH l) n 0 0 = c at hlen hsep hbd hfill ⊢
  have hm : (c.map (pcM (n : Int))).length = c.length := List.length_map ..
  have hend : ∀ k i : Nat, 110 ≤ k → c.length ≤ i + 1 → i ≤ 100 → laws_FnHolesOf.l0 k l (n : Int) (c.map (pcM (n : Int))) (i : Int) = some true := by
    intro k i hk hi hi2
    obtain ⟨k, rfl⟩ : ∃ m, k = m + 1 := ⟨k - 1, by omega⟩
    have hw : wrap64 ((i : Int) + 1) = (i : Int) + 1 := IntWalk.wrap64_in _ (by omega)
    rw [laws_FnHolesOf.l0, hw, if_neg (show ¬ (i : Int) + 1 < ((c.map (pcM (n : Int))).length : Int) by omega), Option.bind_some, if_pos (show ([] : List S47).length + l.length < 5864062014805 by simp only [List.length_nil]; omega), Option.bind_some, List.nil_append, if_pos (show l.length + (c.map (pcM (n : Int))).length < 5864062014805 by omega), Option.bind_some]
    by_cases hb : ((l ++ c.map (pcM (n : Int))).length : Int) > 20
    · rw [if_pos hb]
    · rw [if_neg hb, implHoles_ok _ _ k (by omega), Option.bind_some, hfill]
      rfl
  intro d
  induction d with
  | zero =>
    intro k i hi hk
    exact hend k i (by omega) (by omega) (by omega)
  | succ d ih =>
    intro k i hi hk
    by_cases hlast : c.length ≤ i + 1
    · exact hend k i (by omega) hlast (by omega)
    · obtain ⟨k, rfl⟩ : ∃ m, k = m + 1 := ⟨k - 1, by omega⟩
      have hi1 : i < c.length := by omega
      have hi2 : i + 1 < c.length := by omega
      have hs := List.pairwise_iff_getElem.1 hsep i (i + 1) hi1 hi2 (by omega)
      have hb1 := hbd c[i] (List.getElem_mem _)
      have hb2 := hbd c[i + 1] (List.getElem_mem _)
      have r1 : rd_T47 (c.map (pcM (n : Int))) (i : Int) = pcM (n : Int) c[i] := by
        rw [rdP47_nat _ i (by omega), List.getElem_map]
      have r2 : rd_T47 (c.map (pcM (n : Int))) ((i + 1 : Nat) : Int) = pcM (n : Int) c[i + 1] := by
        rw [rdP47_nat _ (i + 1) (by omega), List.getElem_map]
      rw [laws_FnHolesOf.l0, step_nat i (by omega), if_pos (by omega), if_pos (by omega), if_pos (by omega), if_pos (by omega), r1, r2]
      generalize c[i] = a at hs hb1
      generalize c[i + 1] = b at hs hb2
      have e0 : (pcM (n : Int) a).f0 = (a.1 : Int) := rfl
      have e1 : (pcM (n : Int) a).f1 = (a.2 : Int) := rfl
      have e2 : (pcM (n : Int) b).f0 = (b.1 : Int) := rfl
      have e3 : (pcM (n : Int) a).f2 = decide ((a.1 : Int) + (a.2 : Int) < (n : Int)) := rfl
      rw [e0, e1, e2, e3, IntWalk.wrap64_in ((a.1 : Int) + (a.2 : Int)) (by omega), if_neg (show ¬ (a.1 : Int) + (a.2 : Int) ≥ (b.1 : Int) by omega), if_pos (decide_eq_true (by omega))]
      exact ih k (i + 1) (by omega) (by omega)

theorem FnHolesOf : laws_FnHolesOf.Pure := by
  intro l0 _ _ hw
  suffices H : ∀ k, 1999 ≤ k → laws_FnHolesOf.f (k + 1) l0 = some true from ⟨1999 + 1, H 1999 (Nat.le_refl _)⟩
  intro k hk
  unfold laws_FnHolesOf.f
  by_cases hc : (l0.length : Int) > 1048576
  · rw [if_pos hc]
  · obtain ⟨b, hr, hb, hn⟩ := reader_ok l0 hw
    obtain ⟨o, p', e1, e2, e3, e4⟩ := somePieces_ok b hb hn (k + 1) (by omega)
    obtain ⟨v, hv, _⟩ := one_ok b hb hn k p' [20, 12, 30, 60, 1, 0, 61] e3 (by omega) (by simp)
    have hd : spec_DrawHolesOf.f (k + 1) l0 = some (o, v) := by
      unfold spec_DrawHolesOf.f
      rw [hr, Option.bind_some, e1, Option.bind_some]
      show ((spec_reader_one.f (k + 1) b p' [20, 12, 30, 60, 1, 0, 61]).bind fun bt => some (o, bt.1)) = some (o, v)
      rw [hv, Option.bind_some]
    have hh : (holesM o v).length ≤ 61 := by
      unfold holesM
      by_cases hg : okP o = true ∧ 1 ≤ v ∧ v ≤ 60
      · rw [if_pos hg, List.length_map]
        have := canon_len (holeH o) v.toNat 0 0
        omega
      · rw [if_neg hg]; simp
    have hj0 : ∀ b0, b0 = true → laws_FnHolesOf.j0 (k + 1) o v (holesM o v) b0 = some true := by
      intro b0 hb0
      subst hb0
      rw [laws_FnHolesOf.j0, if_pos rfl, specHoles_ok o (by omega) v k (by omega), Option.bind_some, equalPieces_self _ (by omega) k (by omega), Option.bind_some]
    rw [if_neg hc, hd, Option.bind_some, implHoles_ok o v (k + 1) (by omega), Option.bind_some, specHoles_ok o (by omega) v (k + 1) (by omega), Option.bind_some, equalPieces_self _ (by omega) (k + 1) (by omega), Option.bind_some, if_pos rfl, implVP_val, Option.bind_some]
    by_cases hok : okP o = true
    · rw [if_pos hok]
      by_cases h1 : v < 1
      · rw [if_pos h1]
        exact hj0 true rfl
      · rw [if_neg h1]
        by_cases h2 : v > 60
        · rw [decide_eq_true h2]
          exact hj0 true rfl
        · rw [decide_eq_false h2, laws_FnHolesOf.j0, if_neg Bool.false_ne_true]
          obtain ⟨n, rfl⟩ := Int.eq_ofNat_of_zero_le (show 0 ≤ v by omega)
          have hm : holesM o (n : Int) = (canon (holeH o) n 0 0).map (pcM (n : Int)) := by
            unfold holesM
            rw [if_pos ⟨hok, by omega, by omega⟩, Int.toNat_natCast]
          rw [hm]
          have hlen := canon_len (holeH o) n 0 0
          exact holesLaw_l0 o e2 n (by omega) (by omega) (canon (holeH o) n 0 0).length k 0 (by omega) (by omega)
    · rw [if_neg hok]
      exact hj0 true rfl

end Go.Proofs.Ytghnljpimkchhaa.Pure
