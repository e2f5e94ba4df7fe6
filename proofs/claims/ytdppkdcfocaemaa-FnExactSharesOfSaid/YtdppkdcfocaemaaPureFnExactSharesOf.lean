/- The program's SharesOf returns what the reference's returns, in memory of its own, and leaves its argument as it was: FnExactSharesOf returns true for every int and list of ints. Conditions: none. -/
import Derived.Test.YtdppkdcfocaemaaHFnExactSharesOfx5
namespace Go.Proofs.Ytdppkdcfocaemaa.Pure
open Go.RowKit Go.Proofs.Ytdppkdcfocaemaa.HFnExactSharesOf Go.Proofs.YtdppkdcfocaemaaW.PrintWords Go.Proofs.YtdppkdcfocaemaaW.PrintLast
open Go
set_option linter.unusedVariables false
set_option linter.unusedSimpArgs false

theorem rd_nat (l : List Int) (i : Nat) (h : i < l.length) : rd l (i : Int) = l[i] := by
  unfold rd
  rw [Int.toNat_natCast, List.getD_eq_getElem?_getD, List.getElem?_eq_getElem h]
  rfl

theorem step_nat (i : Nat) (h : i < 4611686018427387904) : wrap64 ((i : Int) + 1) = ((i + 1 : Nat) : Int) := by
  rw [IntWalk.wrap64_in ((i : Int) + 1) (by omega)]
  rfl

theorem toIntS_l0 (l : List Int) (hl : l.length ≤ 2000000) : ∀ (d k i : Nat) (o : List Int), i + d = l.length → d < k → o.length = l.length → (∀ j, j < i → o[j]? = l[j]?) → laws_toIntS.l0 k l o (i : Int) = some l := by
  intro d
  induction d with
  | zero =>
    intro k i o hi hk ho hj
    obtain ⟨k, rfl⟩ : ∃ m, k = m + 1 := ⟨k - 1, by omega⟩
    simp only [laws_toIntS.l0]
    rw [if_neg (by omega)]
    congr 1
    apply List.ext_getElem?
    intro j
    by_cases h : j < l.length
    · exact hj j (by omega)
    · rw [List.getElem?_eq_none (by omega), List.getElem?_eq_none (by omega)]
  | succ d ih =>
    intro k i o hi hk ho hj
    obtain ⟨k, rfl⟩ : ∃ m, k = m + 1 := ⟨k - 1, by omega⟩
    simp only [laws_toIntS.l0]
    rw [if_pos (by omega), if_pos (by omega), if_pos (by omega), step_nat i (by omega), Int.toNat_natCast, rd_nat l i (by omega)]
    refine ih k (i + 1) _ (by omega) (by omega) (by rw [List.length_set]; exact ho) ?_
    intro j hji
    by_cases e : i = j
    · subst e
      rw [List.getElem?_set_self (by omega), List.getElem?_eq_getElem (by omega)]
    · rw [List.getElem?_set_ne e]
      exact hj j (by omega)

theorem toIntS_ok (l : List Int) (hl : l.length ≤ 2000000) (k : Nat) (hk : l.length < k) : laws_toIntS.f k l = some l := by
  unfold laws_toIntS.f
  rw [if_pos (by omega), if_pos (by rw [Int.toNat_natCast]; omega), Int.toNat_natCast]
  exact toIntS_l0 l hl l.length k 0 _ (by omega) hk (List.length_replicate ..) (fun j hj => absurd hj (Nat.not_lt_zero _))

theorem eqIntS_l0 (a b : List Int) (hab : a.length = b.length) (hl : a.length ≤ 2000000) : ∀ (d k i : Nat), i + d = a.length → d < k → laws_eqIntS.l0 k a b (i : Int) = some (decide (a.drop i = b.drop i)) := by
  intro d
  induction d with
  | zero =>
    intro k i hi hk
    obtain ⟨k, rfl⟩ : ∃ m, k = m + 1 := ⟨k - 1, by omega⟩
    simp only [laws_eqIntS.l0]
    rw [if_neg (by omega), List.drop_eq_nil_of_le (by omega), List.drop_eq_nil_of_le (by omega)]
    rfl
  | succ d ih =>
    intro k i hi hk
    obtain ⟨k, rfl⟩ : ∃ m, k = m + 1 := ⟨k - 1, by omega⟩
    simp only [laws_eqIntS.l0]
    rw [if_pos (by omega), if_pos (by omega), if_pos (by omega), step_nat i (by omega), rd_nat a i (by omega), rd_nat b i (by omega)]
    rw [List.drop_eq_getElem_cons (by omega : i < a.length), List.drop_eq_getElem_cons (by omega : i < b.length)]
    by_cases e : a[i]'(by omega) = b[i]'(by omega)
    · rw [if_pos e, ih k (i + 1) (by omega) (by omega), e]
      exact congrArg some (decide_eq_decide.mpr ⟨fun h => by rw [h], fun h => (List.cons.inj h).2⟩)
    · rw [if_neg e]
      exact congrArg some (decide_eq_false (fun h => e (List.cons.inj h).1)).symm

theorem eqIntS_ok (a b : List Int) (hl : a.length ≤ 2000000) (k : Nat) (hk : a.length < k) : laws_eqIntS.f k a b = some (decide (a = b)) := by
  unfold laws_eqIntS.f
  by_cases h : a.length = b.length
  · rw [if_pos (by omega)]
    exact eqIntS_l0 a b h hl a.length k 0 (by omega) hk
  · rw [if_neg (by omega), decide_eq_false (fun e => h (by rw [e]))]

theorem eqIntS_self (a : List Int) (hl : a.length ≤ 2000000) (k : Nat) (hk : a.length < k) : laws_eqIntS.f k a a = some true := by
  rw [eqIntS_ok a a hl k hk, decide_eq_true rfl]

/-- m, m + 1, .. : n numbers. -/
def iota (m : Int) (n : Nat) : List Int := (List.range n).map fun j : Nat => m + (j : Int)

theorem iota_length (m : Int) (n : Nat) : (iota m n).length = n := by simp [iota]
theorem iota_get (m : Int) (n j : Nat) (h : j < (iota m n).length) : (iota m n)[j] = m + (j : Int) := by simp [iota]
theorem iota_get? (m : Int) (n j : Nat) (h : j < n) : (iota m n)[j]? = some (m + (j : Int)) := by
  rw [List.getElem?_eq_getElem (by rw [iota_length]; exact h), iota_get]

theorem markIntS_l0 (n : Nat) (m : Int) (hn : n ≤ 2000000) (hm : 0 ≤ m) (hm' : m ≤ 4000000) : ∀ (d k i : Nat) (o : List Int), i + d = n → d < k → o.length = n → (∀ j, j < i → o[j]? = (iota m n)[j]?) → laws_markIntS.l0 k o (m + (i : Int)) (i : Int) = some (m + (n : Int), iota m n) := by
  intro d
  induction d with
  | zero =>
    intro k i o hi hk ho hj
    obtain ⟨k, rfl⟩ : ∃ m, k = m + 1 := ⟨k - 1, by omega⟩
    simp only [laws_markIntS.l0]
    rw [if_neg (by omega)]
    have e : i = n := by omega
    subst e
    congr 2
    apply List.ext_getElem?
    intro j
    by_cases h : j < i
    · exact hj j h
    · rw [List.getElem?_eq_none (by omega), List.getElem?_eq_none (by rw [iota_length]; omega)]
  | succ d ih =>
    intro k i o hi hk ho hj
    obtain ⟨k, rfl⟩ : ∃ m, k = m + 1 := ⟨k - 1, by omega⟩
    simp only [laws_markIntS.l0]
    rw [if_pos (by omega), if_pos (by omega), step_nat i (by omega), Int.toNat_natCast, (IntWalk.wrap64_in (m + (i : Int) + 1) (by omega)).trans (show m + (i : Int) + 1 = m + ((i + 1 : Nat) : Int) by omega)]
    refine ih k (i + 1) _ (by omega) (by omega) (by rw [List.length_set]; exact ho) ?_
    intro j hji
    by_cases e : i = j
    · subst e
      rw [List.getElem?_set_self (by omega), iota_get? m n i (by omega)]
    · rw [List.getElem?_set_ne e]
      exact hj j (by omega)

theorem markIntS_ok (l : List Int) (m : Int) (hl : l.length ≤ 2000000) (hm : 0 ≤ m) (hm' : m ≤ 4000000) (k : Nat) (hk : l.length < k) : laws_markIntS.f k l m = some (m + (l.length : Int), iota m l.length) := by
  unfold laws_markIntS.f
  have h := markIntS_l0 l.length m hl hm hm' l.length k 0 l (by omega) hk rfl (fun j hj => absurd hj (Nat.not_lt_zero _))
  rw [show m + ((0 : Nat) : Int) = m by omega] at h
  exact h

theorem heldIntS_l0 (n : Nat) (m : Int) (hn : n ≤ 2000000) (hm : 0 ≤ m) (hm' : m ≤ 4000000) : ∀ (d k i : Nat), i + d = n → d < k → laws_heldIntS.l0 k (iota m n) (m + (i : Int)) (i : Int) = some (m + (n : Int)) := by
  intro d
  induction d with
  | zero =>
    intro k i hi hk
    obtain ⟨k, rfl⟩ : ∃ m, k = m + 1 := ⟨k - 1, by omega⟩
    simp only [laws_heldIntS.l0]
    rw [if_neg (by rw [iota_length]; omega)]
    have e : i = n := by omega
    rw [e]
  | succ d ih =>
    intro k i hi hk
    obtain ⟨k, rfl⟩ : ∃ m, k = m + 1 := ⟨k - 1, by omega⟩
    simp only [laws_heldIntS.l0]
    rw [if_pos (by rw [iota_length]; omega), if_pos (by omega), rd_nat _ i (by rw [iota_length]; omega), iota_get, if_pos rfl, step_nat i (by omega), (IntWalk.wrap64_in (m + (i : Int) + 1) (by omega)).trans (show m + (i : Int) + 1 = m + ((i + 1 : Nat) : Int) by omega)]
    exact ih k (i + 1) (by omega) (by omega)

theorem heldIntS_ok (n : Nat) (m : Int) (hn : n ≤ 2000000) (hm : 0 ≤ m) (hm' : m ≤ 4000000) (k : Nat) (hk : n < k) : laws_heldIntS.f k (iota m n) m = some (m + (n : Int)) := by
  unfold laws_heldIntS.f
  have h := heldIntS_l0 n m hn hm hm' n k 0 (by omega) hk
  rw [show m + ((0 : Nat) : Int) = m by omega] at h
  exact h

/-- Loads. -/
def okL (l : List Int) : Bool := l.all fun x => decide (0 ≤ x ∧ x ≤ 30)

theorem okL_iff (l : List Int) : okL l = true ↔ ∀ x ∈ l, 0 ≤ x ∧ x ≤ 30 := by simp [okL]

theorem within_val (x a b : Int) : impl_within.f x a b = some (decide (a ≤ x ∧ x ≤ b)) := by
  unfold impl_within.f
  by_cases h : a ≤ x
  · rw [if_pos h]; simp [h]
  · rw [if_neg h]; simp [h]

theorem containsLoads_val (l : List Int) : hand_Contains_loadsOk.f l = some (!okL l) := by
  unfold hand_Contains_loadsOk.f okL impl_loadsOk_1.f
  congr 1
  induction l with
  | nil => rfl
  | cons x l ih =>
    rw [List.any_cons, List.all_cons, ih, within_val]
    simp only [Option.bind_some, Option.getD_some, Bool.not_and]

theorem loadsOk_val (l : List Int) : impl_loadsOk.f l = some (okL l && decide (l.length ≤ 16)) := by
  unfold impl_loadsOk.f
  rw [containsLoads_val]
  simp only [Option.bind_some, Bool.not_not]
  by_cases h : l.length ≤ 16
  · rw [if_pos (by omega)]; simp [h]
  · rw [if_neg (by omega)]; simp [h]

theorem inRange_val (x a b : Int) : spec_inRange.f x a b = some (decide (a ≤ x ∧ x ≤ b)) := by
  unfold spec_inRange.f
  by_cases h : a ≤ x
  · rw [if_pos h]; simp [h]
  · rw [if_neg h]; simp [h]

theorem validLoads_l0 (l : List Int) (hl : l.length ≤ 2000000) : ∀ (d k i : Nat), i + d = l.length → d < k → spec_validLoads.l0 k l (i : Int) = some (okL (l.drop i) && decide (l.length ≤ 16)) := by
  intro d
  induction d with
  | zero =>
    intro k i hi hk
    obtain ⟨k, rfl⟩ : ∃ m, k = m + 1 := ⟨k - 1, by omega⟩
    simp only [spec_validLoads.l0]
    rw [if_neg (by omega), List.drop_eq_nil_of_le (by omega)]
    have e : decide ((l.length : Int) ≤ 16) = decide (l.length ≤ 16) := decide_eq_decide.mpr (by omega)
    rw [e]
    simp [okL]
  | succ d ih =>
    intro k i hi hk
    obtain ⟨k, rfl⟩ : ∃ m, k = m + 1 := ⟨k - 1, by omega⟩
    simp only [spec_validLoads.l0]
    rw [if_pos (by omega), if_pos (by omega), step_nat i (by omega), rd_nat l i (by omega), inRange_val]
    rw [List.drop_eq_getElem_cons (by omega : i < l.length)]
    simp only [Option.bind_some]
    by_cases e : 0 ≤ l[i]'(by omega) ∧ l[i]'(by omega) ≤ 30
    · rw [if_pos (decide_eq_true e), ih k (i + 1) (by omega) (by omega)]
      have h : okL (l[i]'(by omega) :: l.drop (i + 1)) = okL (l.drop (i + 1)) := by
        unfold okL
        rw [List.all_cons, decide_eq_true e, Bool.true_and]
      rw [h]
    · rw [if_neg (by simpa using e)]
      have h : okL (l[i]'(by omega) :: l.drop (i + 1)) = false := by
        unfold okL
        rw [List.all_cons, decide_eq_false e, Bool.false_and]
      rw [h, Bool.false_and]

theorem validLoads_ok (l : List Int) (hl : l.length ≤ 2000000) (k : Nat) (hk : l.length < k) : spec_validLoads.f k l = some (okL l && decide (l.length ≤ 16)) := by
  unfold spec_validLoads.f
  exact validLoads_l0 l hl l.length k 0 (by omega) hk

/-- What a round takes out: the loads of at most e, out of the room and into the shares. -/
def settle (a : List Int) (e : Int) : List Nat → Int → List Int → Int × List Int
  | [], r, o => (r, o)
  | j :: t, r, o => if a.getD j 0 ≤ e then settle a e t (r - a.getD j 0) (o.set j (a.getD j 0)) else settle a e t r o
def keepL (a : List Int) (e : Int) (op : List Nat) : List Nat := op.filter fun j => decide (¬ a.getD j 0 ≤ e)
def fillAll (e : Int) : List Nat → List Int → List Int
  | [], o => o
  | j :: t, o => fillAll e t (o.set j e)
def shareOf (r : Int) (op : List Nat) : Int := wrap64 (Int.tdiv r (op.length : Int))
def sharesM (a : List Int) : Nat → Int → List Int → List Nat → List Int
  | 0, _, o, _ => o
  | d + 1, r, o, op => if op.length = 0 then o else (if (keepL a (shareOf r op) op).length = op.length then fillAll (shareOf r op) op o else sharesM a d (settle a (shareOf r op) op r o).1 (settle a (shareOf r op) op r o).2 (keepL a (shareOf r op) op))
def up (op : List Nat) : List Int := op.map fun j : Nat => (j : Int)

theorem up_length (op : List Nat) : (up op).length = op.length := List.length_map ..
theorem up_get (op : List Nat) (i : Nat) (h : i < op.length) : rd (up op) (i : Int) = (op[i] : Int) := by
  rw [rd_nat _ i (by rw [up_length]; exact h)]
  simp [up]
theorem up_append (op : List Nat) (j : Nat) : up op ++ [(j : Int)] = up (op ++ [j]) := by simp [up]
theorem rd_getD (a : List Int) (j : Nat) : rd a (j : Int) = a.getD j 0 := by
  unfold rd
  rw [Int.toNat_natCast]
theorem settle_length (a : List Int) (e : Int) : ∀ (t : List Nat) (r : Int) (o : List Int), (settle a e t r o).2.length = o.length := by
  intro t
  induction t with
  | nil => intro r o; rfl
  | cons j t ih =>
    intro r o
    rw [settle]
    by_cases h : a.getD j 0 ≤ e
    · rw [if_pos h, ih, List.length_set]
    · rw [if_neg h, ih]
theorem settle_room (a : List Int) (ha : ∀ j, 0 ≤ a.getD j 0 ∧ a.getD j 0 ≤ 30) (e : Int) : ∀ (t : List Nat) (r : Int) (o : List Int), (settle a e t r o).1 ≤ r ∧ r - 30 * ((t.length : Int) - ((keepL a e t).length : Int)) ≤ (settle a e t r o).1 := by
  intro t
  induction t with
  | nil => intro r o; exact ⟨Int.le_refl _, by simp [settle, keepL]⟩
  | cons j t ih =>
    intro r o
    have hj := ha j
    rw [settle]
    unfold keepL at ih ⊢
    by_cases h : a.getD j 0 ≤ e
    · have := ih (r - a.getD j 0) (o.set j (a.getD j 0))
      rw [if_pos h, List.filter_cons_of_neg (by simpa using h), List.length_cons]
      omega
    · have := ih r o
      rw [if_neg h, List.filter_cons_of_pos (by simpa using h), List.length_cons, List.length_cons]
      omega
theorem keepL_le (a : List Int) (e : Int) (op : List Nat) : (keepL a e op).length ≤ op.length := List.length_filter_le ..
theorem settle_none (a : List Int) (e : Int) : ∀ (t : List Nat) (r : Int) (o : List Int), (keepL a e t).length = t.length → settle a e t r o = (r, o) := by
  intro t
  induction t with
  | nil => intro r o _; rfl
  | cons j t ih =>
    intro r o hl
    have hle := keepL_le a e t
    rw [settle]
    unfold keepL at ih hl hle
    by_cases h : a.getD j 0 ≤ e
    · rw [List.filter_cons_of_neg (by simpa using h), List.length_cons] at hl
      omega
    · rw [List.filter_cons_of_pos (by simpa using h), List.length_cons, List.length_cons] at hl
      rw [if_neg h]
      exact ih r o (by omega)

theorem implSh_l3 (e : Int) (op : List Nat) (hn : op.length ≤ 100) (n : Nat) (hop : ∀ j ∈ op, j < n) : ∀ (d k i : Nat) (o : List Int), i + d = op.length → d < k → o.length = n → impl_SharesOf.l3 k o e (up op) ((up op).length : Int) (i : Int) = some (fillAll e (op.drop i) o) := by
  intro d
  induction d with
  | zero =>
    intro k i o hi hk ho
    obtain ⟨k, rfl⟩ : ∃ m, k = m + 1 := ⟨k - 1, by omega⟩
    rw [impl_SharesOf.l3, if_neg (by rw [up_length]; omega), List.drop_eq_nil_of_le (by omega)]
    rfl
  | succ d ih =>
    intro k i o hi hk ho
    obtain ⟨k, rfl⟩ : ∃ m, k = m + 1 := ⟨k - 1, by omega⟩
    have hil : i < op.length := by omega
    have hj := hop op[i] (List.getElem_mem _)
    rw [impl_SharesOf.l3, if_pos (by rw [up_length]; omega), if_pos (by omega), if_pos (by rw [up_length]; omega), up_get op i hil, if_pos (by omega), if_pos (by omega), step_nat i (by omega), Int.toNat_natCast, ih k (i + 1) _ (by omega) (by omega) (by rw [List.length_set]; exact ho), List.drop_eq_getElem_cons hil]
    rfl

theorem specSh_l3 (e : Int) (op : List Nat) (hn : op.length ≤ 100) (n : Nat) (hop : ∀ j ∈ op, j < n) : ∀ (d k i : Nat) (o : List Int), i + d = op.length → d < k → o.length = n → spec_shares.l3 k o (up op) e (i : Int) = some (fillAll e (op.drop i) o) := by
  intro d
  induction d with
  | zero =>
    intro k i o hi hk ho
    obtain ⟨k, rfl⟩ : ∃ m, k = m + 1 := ⟨k - 1, by omega⟩
    rw [spec_shares.l3, if_neg (by rw [up_length]; omega), List.drop_eq_nil_of_le (by omega)]
    rfl
  | succ d ih =>
    intro k i o hi hk ho
    obtain ⟨k, rfl⟩ : ∃ m, k = m + 1 := ⟨k - 1, by omega⟩
    have hil : i < op.length := by omega
    have hj := hop op[i] (List.getElem_mem _)
    rw [spec_shares.l3, if_pos (by rw [up_length]; omega), if_pos (by omega), up_get op i hil, if_pos (by omega), if_pos (by omega), step_nat i (by omega), Int.toNat_natCast, ih k (i + 1) _ (by omega) (by omega) (by rw [List.length_set]; exact ho), List.drop_eq_getElem_cons hil]
    rfl

theorem implSh_l2 (a : List Int) (ha : ∀ j, 0 ≤ a.getD j 0 ∧ a.getD j 0 ≤ 30) (e : Int) (op : List Nat) (hn : op.length ≤ 100) (hop : ∀ j ∈ op, j < a.length) : ∀ (d k i : Nat) (r : Int) (o : List Int) (nx : List Nat), i + d = op.length → o.length = a.length → nx.length ≤ i → r ≤ 100000 → -100000 + 30 * (d : Int) ≤ r →
    impl_SharesOf.l2 (k + d + 1) r a o (up op) e (up nx) (up op) ((up op).length : Int) (i : Int) = (if (nx ++ keepL a e (op.drop i)).length = op.length then impl_SharesOf.l3 k (settle a e (op.drop i) r o).2 e (up op) ((up op).length : Int) 0 else impl_SharesOf.l1 k (settle a e (op.drop i) r o).1 a (settle a e (op.drop i) r o).2 (up (nx ++ keepL a e (op.drop i)))) := by
  intro d
  induction d with
  | zero =>
    intro k i r o nx hi ho hx hr hr'
    rw [impl_SharesOf.l2, if_neg (by rw [up_length]; omega), List.drop_eq_nil_of_le (by omega), up_length, up_length]
    unfold keepL
    rw [List.filter_nil, List.append_nil, settle]
    by_cases h : nx.length = op.length
    · rw [if_pos h, if_pos (by omega)]
    · rw [if_neg h, if_neg (by omega)]
  | succ d ih =>
    intro k i r o nx hi ho hx hr hr'
    have hil : i < op.length := by omega
    have hj := hop op[i] (List.getElem_mem _)
    have hv := ha op[i]
    rw [show k + (d + 1) + 1 = (k + d + 1) + 1 from rfl, impl_SharesOf.l2, if_pos (by rw [up_length]; omega), if_pos (by omega), if_pos (by rw [up_length]; omega), up_get op i hil, if_pos (by omega), if_pos (by omega), rd_getD, step_nat i (by omega), Int.toNat_natCast, List.drop_eq_getElem_cons hil, settle]
    by_cases h : a.getD op[i] 0 ≤ e
    · rw [if_pos h, if_pos h, if_pos (by omega), IntWalk.wrap64_in (r - a.getD op[i] 0) (by omega), ih k (i + 1) _ _ nx (by omega) (by rw [List.length_set]; exact ho) (by omega) (by omega) (by omega)]
      rw [show keepL a e (op[i] :: op.drop (i + 1)) = keepL a e (op.drop (i + 1)) from List.filter_cons_of_neg (by simpa using h)]
    · rw [if_neg h, if_neg h, if_pos (by rw [up_length]; omega), up_append, ih k (i + 1) r o (nx ++ [op[i]]) (by omega) ho (by rw [List.length_append, List.length_singleton]; omega) (by omega) (by omega)]
      rw [show keepL a e (op[i] :: op.drop (i + 1)) = op[i] :: keepL a e (op.drop (i + 1)) from List.filter_cons_of_pos (by simpa using h), List.append_assoc]
      rfl

theorem specSh_l2 (a : List Int) (r : Int) (o : List Int) (e : Int) (op : List Nat) (hn : op.length ≤ 100) (hop : ∀ j ∈ op, j < a.length) : ∀ (d k i : Nat) (nx : List Nat), i + d = op.length → nx.length ≤ i →
    spec_shares.l2 (k + d + 1) r a o (up op) e (up nx) (i : Int) = (if (nx ++ keepL a e (op.drop i)).length = op.length then spec_shares.l3 k o (up op) e 0 else spec_shares.l4 k r a o (up op) e (up (nx ++ keepL a e (op.drop i))) 0) := by
  intro d
  induction d with
  | zero =>
    intro k i nx hi hx
    rw [spec_shares.l2, if_neg (by rw [up_length]; omega), List.drop_eq_nil_of_le (by omega), up_length, up_length]
    unfold keepL
    rw [List.filter_nil, List.append_nil]
    by_cases h : nx.length = op.length
    · rw [if_pos h, if_pos (by omega)]
    · rw [if_neg h, if_neg (by omega)]
  | succ d ih =>
    intro k i nx hi hx
    have hil : i < op.length := by omega
    have hj := hop op[i] (List.getElem_mem _)
    rw [show k + (d + 1) + 1 = (k + d + 1) + 1 from rfl, spec_shares.l2, if_pos (by rw [up_length]; omega), if_pos (by omega), up_get op i hil, if_pos (by omega), if_pos (by omega), rd_getD, step_nat i (by omega), List.drop_eq_getElem_cons hil]
    by_cases h : a.getD op[i] 0 ≤ e
    · rw [if_neg (by omega), ih k (i + 1) nx (by omega) (by omega)]
      rw [show keepL a e (op[i] :: op.drop (i + 1)) = keepL a e (op.drop (i + 1)) from List.filter_cons_of_neg (by simpa using h)]
    · rw [if_pos (by omega), if_pos (by rw [up_length]; omega), up_append, ih k (i + 1) (nx ++ [op[i]]) (by omega) (by rw [List.length_append, List.length_singleton]; omega)]
      rw [show keepL a e (op[i] :: op.drop (i + 1)) = op[i] :: keepL a e (op.drop (i + 1)) from List.filter_cons_of_pos (by simpa using h), List.append_assoc]
      rfl

theorem specSh_l4 (a : List Int) (ha : ∀ j, 0 ≤ a.getD j 0 ∧ a.getD j 0 ≤ 30) (e : Int) (op : List Nat) (hn : op.length ≤ 100) (hop : ∀ j ∈ op, j < a.length) (nx : List Int) : ∀ (d k i : Nat) (r : Int) (o : List Int), i + d = op.length → o.length = a.length → r ≤ 100000 → -100000 + 30 * (d : Int) ≤ r →
    spec_shares.l4 (k + d + 1) r a o (up op) e nx (i : Int) = spec_shares.l1 k (settle a e (op.drop i) r o).1 a (settle a e (op.drop i) r o).2 nx := by
  intro d
  induction d with
  | zero =>
    intro k i r o hi ho hr hr'
    rw [spec_shares.l4, if_neg (by rw [up_length]; omega), List.drop_eq_nil_of_le (by omega), settle]
  | succ d ih =>
    intro k i r o hi ho hr hr'
    have hil : i < op.length := by omega
    have hj := hop op[i] (List.getElem_mem _)
    have hv := ha op[i]
    rw [show k + (d + 1) + 1 = (k + d + 1) + 1 from rfl, spec_shares.l4, if_pos (by rw [up_length]; omega), if_pos (by omega), up_get op i hil, if_pos (by omega), if_pos (by omega), rd_getD, step_nat i (by omega), Int.toNat_natCast, List.drop_eq_getElem_cons hil, settle]
    by_cases h : a.getD op[i] 0 ≤ e
    · rw [if_pos h, if_pos h, if_pos (by omega), IntWalk.wrap64_in (r - a.getD op[i] 0) (by omega), ih k (i + 1) _ _ (by omega) (by rw [List.length_set]; exact ho) (by omega) (by omega)]
    · rw [if_neg h, if_neg h, ih k (i + 1) r o (by omega) ho (by omega) (by omega)]

theorem sh_l1 (a : List Int) (ha : ∀ j, 0 ≤ a.getD j 0 ∧ a.getD j 0 ≤ 30) : ∀ (D k k' : Nat) (r : Int) (o : List Int) (op : List Nat), op.length ≤ D → D ≤ 100 → 300 * D + 1 ≤ k → 300 * D + 1 ≤ k' → o.length = a.length → (∀ j ∈ op, j < a.length) → r ≤ 1000 → -90000 + 30 * (op.length : Int) ≤ r →
    impl_SharesOf.l1 k r a o (up op) = some (sharesM a D r o op) ∧ spec_shares.l1 k' r a o (up op) = some (sharesM a D r o op) := by
  intro D
  induction D with
  | zero =>
    intro k k' r o op hD _ hk hk' ho hop hr hr'
    obtain ⟨k, rfl⟩ : ∃ m, k = m + 1 := ⟨k - 1, by omega⟩
    obtain ⟨k', rfl⟩ : ∃ m, k' = m + 1 := ⟨k' - 1, by omega⟩
    rw [impl_SharesOf.l1, spec_shares.l1, if_neg (by rw [up_length]; omega), if_neg (by rw [up_length]; omega)]
    exact ⟨rfl, rfl⟩
  | succ D ih =>
    intro k k' r o op hD hD100 hk hk' ho hop hr hr'
    obtain ⟨k, rfl⟩ : ∃ m, k = (m + op.length + 1) + 1 := ⟨k - op.length - 2, by omega⟩
    obtain ⟨k', rfl⟩ : ∃ m, k' = ((m + op.length + 1) + op.length + 1) + 1 := ⟨k' - op.length - op.length - 3, by omega⟩
    rw [impl_SharesOf.l1, spec_shares.l1, sharesM]
    by_cases h0 : op.length = 0
    · rw [if_neg (show ¬ ((up op).length : Int) > 0 by rw [up_length]; omega), if_neg (show ¬ ((up op).length : Int) > 0 by rw [up_length]; omega), if_pos h0]
      exact ⟨rfl, rfl⟩
    · have hsh : wrap64 (Int.tdiv r ((up op).length : Int)) = shareOf r op := by
        unfold shareOf
        rw [up_length]
      rw [if_pos (show ((up op).length : Int) > 0 by rw [up_length]; omega), if_pos (show ((up op).length : Int) > 0 by rw [up_length]; omega), if_neg (show ¬ ((up op).length : Int) = 0 by rw [up_length]; omega), if_neg (show ¬ ((up op).length : Int) = 0 by rw [up_length]; omega), if_neg h0, hsh]
      have e1 := implSh_l2 a ha (shareOf r op) op (by omega) hop op.length k 0 r o [] (by omega) ho (by simp) (by omega) (by omega)
      have e2 := specSh_l2 a r o (shareOf r op) op (by omega) hop op.length (k' + op.length + 1) 0 [] (by omega) (by simp)
      rw [List.drop_zero, List.nil_append] at e1 e2
      rw [show ((0 : Nat) : Int) = 0 from rfl] at e1 e2
      have eu : up [] = ([] : List Int) := rfl
      rw [eu] at e1 e2
      rw [e1, e2]
      by_cases h1 : (keepL a (shareOf r op) op).length = op.length
      · rw [if_pos h1, if_pos h1, if_pos h1, settle_none a _ op r o h1]
        have f1 := implSh_l3 (shareOf r op) op (by omega) a.length hop op.length k 0 o (by omega) (by omega) ho
        have f2 := specSh_l3 (shareOf r op) op (by omega) a.length hop op.length (k' + op.length + 1) 0 o (by omega) (by omega) ho
        rw [List.drop_zero, show ((0 : Nat) : Int) = 0 from rfl] at f1 f2
        exact ⟨f1, f2⟩
      · have e3 := specSh_l4 a ha (shareOf r op) op (by omega) hop (up (keepL a (shareOf r op) op)) op.length k' 0 r o (by omega) ho (by omega) (by omega)
        rw [List.drop_zero, show ((0 : Nat) : Int) = 0 from rfl] at e3
        rw [if_neg h1, if_neg h1, if_neg h1, e3]
        have hle := keepL_le a (shareOf r op) op
        have hrm := settle_room a ha (shareOf r op) op r o
        exact ih k k' _ _ _ (by omega) (by omega) (by omega) (by omega) (by rw [settle_length]; exact ho) (fun j hj => hop j (List.mem_filter.1 hj).1) (by omega) (by omega)

def sharesOf (room : Int) (a : List Int) : List Int := if 0 ≤ room ∧ room ≤ 200 ∧ okL a = true ∧ a.length ≤ 16 then sharesM a a.length room (List.replicate a.length 0) (List.range a.length) else []

theorem okL_getD (a : List Int) (h : okL a = true) (j : Nat) : 0 ≤ a.getD j 0 ∧ a.getD j 0 ≤ 30 := by
  unfold okL at h
  rw [List.all_eq_true] at h
  rw [List.getD_eq_getElem?_getD]
  by_cases hj : j < a.length
  · rw [List.getElem?_eq_getElem hj]
    have := h a[j] (List.getElem_mem _)
    simpa using this
  · rw [List.getElem?_eq_none (by omega)]
    simp

theorem range_drop (n i : Nat) (h : i < n) : (List.range n).drop i = i :: (List.range n).drop (i + 1) := by
  rw [List.drop_eq_getElem_cons (by simpa using h)]
  simp

theorem implSh_l0 (r : Int) (a o : List Int) (hn : a.length ≤ 100) : ∀ (d k i : Nat), i + d = a.length → impl_SharesOf.l0 (k + d + 1) r a o (up ((List.range a.length).take i)) (a.length : Int) (i : Int) = impl_SharesOf.l1 k r a o (up (List.range a.length)) := by
  intro d
  induction d with
  | zero =>
    intro k i hi
    rw [impl_SharesOf.l0, if_neg (by omega), List.take_of_length_le (by simp; omega)]
  | succ d ih =>
    intro k i hi
    rw [show k + (d + 1) + 1 = (k + d + 1) + 1 from rfl, impl_SharesOf.l0, if_pos (by omega), if_pos (by rw [up_length, List.length_take]; omega), up_append, step_nat i (by omega)]
    have e : (List.range a.length).take i ++ [i] = (List.range a.length).take (i + 1) := by
      rw [List.take_succ_eq_append_getElem (by simp; omega)]
      simp
    rw [e]
    exact ih k (i + 1) (by omega)

theorem specSh_l0 (r : Int) (a o : List Int) (hn : a.length ≤ 100) : ∀ (d k i : Nat), i + d = a.length → spec_shares.l0 (k + d + 1) r a o (up ((List.range a.length).take i)) (i : Int) = spec_shares.l1 k r a o (up (List.range a.length)) := by
  intro d
  induction d with
  | zero =>
    intro k i hi
    rw [spec_shares.l0, if_neg (by omega), List.take_of_length_le (by simp; omega)]
  | succ d ih =>
    intro k i hi
    rw [show k + (d + 1) + 1 = (k + d + 1) + 1 from rfl, spec_shares.l0, if_pos (by omega), if_pos (by rw [up_length, List.length_take]; omega), up_append, step_nat i (by omega)]
    have e : (List.range a.length).take i ++ [i] = (List.range a.length).take (i + 1) := by
      rw [List.take_succ_eq_append_getElem (by simp; omega)]
      simp
    rw [e]
    exact ih k (i + 1) (by omega)

theorem sharesOf_ok (room : Int) (a : List Int) (hl : a.length ≤ 2000000) (k : Nat) (hk : 6000 + a.length ≤ k) : impl_SharesOf.f k room a = some (sharesOf room a) ∧ spec_SharesOf.f k room a = some (sharesOf room a) := by
  have hz : up ((List.range a.length).take 0) = ([] : List Int) := rfl
  unfold impl_SharesOf.f spec_SharesOf.f sharesOf
  rw [within_val, inRange_val, Option.bind_some, Option.bind_some]
  by_cases h1 : 0 ≤ room ∧ room ≤ 200
  · rw [decide_eq_true h1, if_pos rfl, if_pos rfl, loadsOk_val, Option.bind_some, validLoads_ok a hl k (by omega), Option.bind_some]
    by_cases h2 : okL a = true ∧ a.length ≤ 16
    · obtain ⟨h2, h3⟩ := h2
      obtain ⟨k, rfl⟩ : ∃ m, k = (m + a.length + 1) + 1 := ⟨k - a.length - 2, by omega⟩
      have hm := fun k k' hk hk' => sh_l1 a (okL_getD a h2) a.length k k' room (List.replicate a.length 0) (List.range a.length) (by simp) (by omega) hk hk' (by simp) (fun j hj => by simpa using hj) (by omega) (by simp; omega)
      have e1 := implSh_l0 room a (List.replicate a.length 0) (by omega) a.length k 0 (by omega)
      have e2 := specSh_l0 room a (List.replicate a.length 0) (by omega) a.length (k + 1) 0 (by omega)
      rw [hz, show ((0 : Nat) : Int) = 0 from rfl] at e1 e2
      rw [if_pos ⟨h1.1, h1.2, h2, h3⟩, h2, decide_eq_true h3]
      show impl_SharesOf.j0 (k + a.length + 1 + 1) room a false = _ ∧ ((spec_shares.f (k + a.length + 1 + 1) room a).bind fun t142 => some t142) = _
      unfold spec_shares.f
      rw [impl_SharesOf.j0, if_neg Bool.false_ne_true, if_pos (by omega), if_pos (by rw [Int.toNat_natCast]; omega), if_pos (by omega), if_pos (by rw [Int.toNat_natCast]; omega), Int.toNat_natCast, e1, show k + a.length + 1 + 1 = (k + 1) + a.length + 1 by omega, e2]
      obtain ⟨g1, g2⟩ := hm k (k + 1) (by omega) (by omega)
      rw [g1, g2]
      exact ⟨rfl, rfl⟩
    · obtain ⟨k, rfl⟩ : ∃ m, k = m + 1 := ⟨k - 1, by omega⟩
      have hb : (okL a && decide (a.length ≤ 16)) = false := by
        rw [Bool.and_eq_false_iff]
        by_cases h3 : okL a = true
        · exact .inr (decide_eq_false (fun h => h2 ⟨h3, h⟩))
        · exact .inl (Bool.eq_false_iff.mpr h3)
      rw [hb, if_neg (fun h => h2 ⟨h.2.2.1, h.2.2.2⟩), if_neg Bool.false_ne_true, Bool.not_false, impl_SharesOf.j0, if_pos rfl]
      exact ⟨rfl, rfl⟩
  · obtain ⟨k, rfl⟩ : ∃ m, k = m + 1 := ⟨k - 1, by omega⟩
    rw [decide_eq_false h1, if_neg Bool.false_ne_true, if_neg Bool.false_ne_true, if_neg (fun h => h1 ⟨h.1, h.2.1⟩), impl_SharesOf.j0, if_pos rfl]
    exact ⟨rfl, rfl⟩

theorem sharesM_length (a : List Int) : ∀ (D : Nat) (r : Int) (o : List Int) (op : List Nat), (sharesM a D r o op).length = o.length := by
  have hf : ∀ (e : Int) (op : List Nat) (o : List Int), (fillAll e op o).length = o.length := by
    intro e op
    induction op with
    | nil => intro o; rfl
    | cons j t ih => intro o; rw [fillAll, ih, List.length_set]
  intro D
  induction D with
  | zero => intro r o op; rfl
  | succ D ih =>
    intro r o op
    rw [sharesM]
    by_cases h0 : op.length = 0
    · rw [if_pos h0]
    · rw [if_neg h0]
      by_cases h1 : (keepL a (shareOf r op) op).length = op.length
      · rw [if_pos h1, hf]
      · rw [if_neg h1, ih, settle_length]

theorem FnExactSharesOf : laws_FnExactSharesOf.Pure := by
  intro room l _ _ _ _
  by_cases hc : (l.length : Int) > 1048576
  · exact ⟨0, by unfold laws_FnExactSharesOf.f; rw [if_pos hc]⟩
  · have hl : l.length ≤ 2000000 := by omega
    have hr : (sharesOf room l).length ≤ 16 := by
      unfold sharesOf
      by_cases h : 0 ≤ room ∧ room ≤ 200 ∧ okL l = true ∧ l.length ≤ 16
      · rw [if_pos h, sharesM_length]
        simp
        omega
      · rw [if_neg h]
        simp
    have hi : ∀ k, 6000 + l.length ≤ k → impl_SharesOf.f k room l = some (sharesOf room l) := fun k hk => (sharesOf_ok room l hl k hk).1
    have hs : ∀ k, 6000 + l.length ≤ k → spec_SharesOf.f k room l = some (sharesOf room l) := fun k hk => (sharesOf_ok room l hl k hk).2
    generalize sharesOf room l = r at hr hi hs
    have hm1 : ¬ (1 + (l.length : Int) < 0) := by omega
    have hm2 : ¬ (1 + (r.length : Int) < 0) := by omega
    suffices H : ∀ k, 6000 + l.length ≤ k → laws_FnExactSharesOf.f (k + 1) room l = some true from ⟨_, H _ (Nat.le_refl _)⟩
    intro k hk
    unfold laws_FnExactSharesOf.f
    rw [if_neg hc]
    simp (disch := omega) only [toIntS_ok, hs, hi, Option.bind_some, eqIntS_self, if_true, markIntS_ok, hm1, if_false, Bool.not_true]
    simp (disch := omega) only [laws_FnExactSharesOf.j0, Bool.false_eq_true, if_false, toIntS_ok, Option.bind_some, hi, eqIntS_self, if_true, markIntS_ok, heldIntS_ok, hm2]

end Go.Proofs.Ytdppkdcfocaemaa.Pure
