/- Shares are fair: FnSharesOf returns true for every list of bytes. Conditions: none. -/
import Derived.Test.YtdppkdcfocaemaaHFnSharesOfx6
namespace Go.Proofs.Ytdppkdcfocaemaa.Pure
open Go.RowKit Go.Proofs.Ytdppkdcfocaemaa.HFnSharesOf Go.Proofs.YtdppkdcfocaemaaW.PrintWords Go.Proofs.YtdppkdcfocaemaaW.PrintLast
open Go
set_option linter.unusedVariables false
set_option linter.unusedSimpArgs false

theorem rd_nat (l : List Int) (i : Nat) (h : i < l.length) : rd l (i : Int) = l[i] := by
  unfold rd
  rw [Int.toNat_natCast, List.getD_eq_getElem?_getD, List.getElem?_eq_getElem h]
  rfl

theorem step_nat (i : Nat) (h : i < 4611686018427387904) : wrap64 ((i : Int) + 1) = ((i + 1 : Nat) : Int) := by
  rw [IntWalk.wrap64_in ((i : Int) + 1) (by omega)]
  rfl

/-- Loads. -/
def okL (l : List Int) : Bool := l.all fun x => decide (0 ≤ x ∧ x ≤ 30)

theorem okL_iff (l : List Int) : okL l = true ↔ ∀ x ∈ l, 0 ≤ x ∧ x ≤ 30 := by simp [okL]

theorem within_val (x a b : Int) : impl_within.f x a b = some (decide (a ≤ x ∧ x ≤ b)) := by
  unfold impl_within.f
  by_cases h : a ≤ x
  · rw [if_pos h]; simp [h]
  · rw [if_neg h]; simp [h]

theorem containsLoads_val (l : List Int) : hand_Contains_loadsOk.f l = some (!okL l) := by
  unfold hand_Contains_loadsOk.f okL impl_loadsOk_1.f
  congr 1
  induction l with
  | nil => rfl
  | cons x l ih =>
    rw [List.any_cons, List.all_cons, ih, within_val]
    simp only [Option.bind_some, Option.getD_some, Bool.not_and]

theorem loadsOk_val (l : List Int) : impl_loadsOk.f l = some (okL l && decide (l.length ≤ 16)) := by
  unfold impl_loadsOk.f
  rw [containsLoads_val]
  simp only [Option.bind_some, Bool.not_not]
  by_cases h : l.length ≤ 16
  · rw [if_pos (by omega)]; simp [h]
  · rw [if_neg (by omega)]; simp [h]

theorem inRange_val (x a b : Int) : spec_inRange.f x a b = some (decide (a ≤ x ∧ x ≤ b)) := by
  unfold spec_inRange.f
  by_cases h : a ≤ x
  · rw [if_pos h]; simp [h]
  · rw [if_neg h]; simp [h]

theorem validLoads_l0 (l : List Int) (hl : l.length ≤ 2000000) : ∀ (d k i : Nat), i + d = l.length → d < k → spec_validLoads.l0 k l (i : Int) = some (okL (l.drop i) && decide (l.length ≤ 16)) := by
  intro d
  induction d with
  | zero =>
    intro k i hi hk
    obtain ⟨k, rfl⟩ : ∃ m, k = m + 1 := ⟨k - 1, by omega⟩
    simp only [spec_validLoads.l0]
    rw [if_neg (by omega), List.drop_eq_nil_of_le (by omega)]
    have e : decide ((l.length : Int) ≤ 16) = decide (l.length ≤ 16) := decide_eq_decide.mpr (by omega)
    rw [e]
    simp [okL]
  | succ d ih =>
    intro k i hi hk
    obtain ⟨k, rfl⟩ : ∃ m, k = m + 1 := ⟨k - 1, by omega⟩
    simp only [spec_validLoads.l0]
    rw [if_pos (by omega), if_pos (by omega), step_nat i (by omega), rd_nat l i (by omega), inRange_val]
    rw [List.drop_eq_getElem_cons (by omega : i < l.length)]
    simp only [Option.bind_some]
    by_cases e : 0 ≤ l[i]'(by omega) ∧ l[i]'(by omega) ≤ 30
    · rw [if_pos (decide_eq_true e), ih k (i + 1) (by omega) (by omega)]
      have h : okL (l[i]'(by omega) :: l.drop (i + 1)) = okL (l.drop (i + 1)) := by
        unfold okL
        rw [List.all_cons, decide_eq_true e, Bool.true_and]
      rw [h]
    · rw [if_neg (by simpa using e)]
      have h : okL (l[i]'(by omega) :: l.drop (i + 1)) = false := by
        unfold okL
        rw [List.all_cons, decide_eq_false e, Bool.false_and]
      rw [h, Bool.false_and]

theorem validLoads_ok (l : List Int) (hl : l.length ≤ 2000000) (k : Nat) (hk : l.length < k) : spec_validLoads.f k l = some (okL l && decide (l.length ≤ 16)) := by
  unfold spec_validLoads.f
  exact validLoads_l0 l hl l.length k 0 (by omega) hk

/-- What a round takes out: the loads of at most e, out of the room and into the shares. -/
def settle (a : List Int) (e : Int) : List Nat → Int → List Int → Int × List Int
  | [], r, o => (r, o)
  | j :: t, r, o => if a.getD j 0 ≤ e then settle a e t (r - a.getD j 0) (o.set j (a.getD j 0)) else settle a e t r o
def keepL (a : List Int) (e : Int) (op : List Nat) : List Nat := op.filter fun j => decide (¬ a.getD j 0 ≤ e)
def fillAll (e : Int) : List Nat → List Int → List Int
  | [], o => o
  | j :: t, o => fillAll e t (o.set j e)
def shareOf (r : Int) (op : List Nat) : Int := wrap64 (Int.tdiv r (op.length : Int))
def sharesM (a : List Int) : Nat → Int → List Int → List Nat → List Int
  | 0, _, o, _ => o
  | d + 1, r, o, op => if op.length = 0 then o else (if (keepL a (shareOf r op) op).length = op.length then fillAll (shareOf r op) op o else sharesM a d (settle a (shareOf r op) op r o).1 (settle a (shareOf r op) op r o).2 (keepL a (shareOf r op) op))
def up (op : List Nat) : List Int := op.map fun j : Nat => (j : Int)

theorem up_length (op : List Nat) : (up op).length = op.length := List.length_map ..
theorem up_get (op : List Nat) (i : Nat) (h : i < op.length) : rd (up op) (i : Int) = (op[i] : Int) := by
  rw [rd_nat _ i (by rw [up_length]; exact h)]
  simp [up]
theorem up_append (op : List Nat) (j : Nat) : up op ++ [(j : Int)] = up (op ++ [j]) := by simp [up]
theorem rd_getD (a : List Int) (j : Nat) : rd a (j : Int) = a.getD j 0 := by
  unfold rd
  rw [Int.toNat_natCast]
theorem settle_length (a : List Int) (e : Int) : ∀ (t : List Nat) (r : Int) (o : List Int), (settle a e t r o).2.length = o.length := by
  intro t
  induction t with
  | nil => intro r o; rfl
  | cons j t ih =>
    intro r o
    rw [settle]
    by_cases h : a.getD j 0 ≤ e
    · rw [if_pos h, ih, List.length_set]
    · rw [if_neg h, ih]
theorem settle_room (a : List Int) (ha : ∀ j, 0 ≤ a.getD j 0 ∧ a.getD j 0 ≤ 30) (e : Int) : ∀ (t : List Nat) (r : Int) (o : List Int), (settle a e t r o).1 ≤ r ∧ r - 30 * ((t.length : Int) - ((keepL a e t).length : Int)) ≤ (settle a e t r o).1 := by
  intro t
  induction t with
  | nil => intro r o; exact ⟨Int.le_refl _, by simp [settle, keepL]⟩
  | cons j t ih =>
    intro r o
    have hj := ha j
    rw [settle]
    unfold keepL at ih ⊢
    by_cases h : a.getD j 0 ≤ e
    · have := ih (r - a.getD j 0) (o.set j (a.getD j 0))
      rw [if_pos h, List.filter_cons_of_neg (by simpa using h), List.length_cons]
      omega
    · have := ih r o
      rw [if_neg h, List.filter_cons_of_pos (by simpa using h), List.length_cons, List.length_cons]
      omega
theorem keepL_le (a : List Int) (e : Int) (op : List Nat) : (keepL a e op).length ≤ op.length := List.length_filter_le ..
theorem settle_none (a : List Int) (e : Int) : ∀ (t : List Nat) (r : Int) (o : List Int), (keepL a e t).length = t.length → settle a e t r o = (r, o) := by
  intro t
  induction t with
  | nil => intro r o _; rfl
  | cons j t ih =>
    intro r o hl
    have hle := keepL_le a e t
    rw [settle]
    unfold keepL at ih hl hle
    by_cases h : a.getD j 0 ≤ e
    · rw [List.filter_cons_of_neg (by simpa using h), List.length_cons] at hl
      omega
    · rw [List.filter_cons_of_pos (by simpa using h), List.length_cons, List.length_cons] at hl
      rw [if_neg h]
      exact ih r o (by omega)

theorem implSh_l3 (e : Int) (op : List Nat) (hn : op.length ≤ 100) (n : Nat) (hop : ∀ j ∈ op, j < n) : ∀ (d k i : Nat) (o : List Int), i + d = op.length → d < k → o.length = n → impl_SharesOf.l3 k o e (up op) ((up op).length : Int) (i : Int) = some (fillAll e (op.drop i) o) := by
  intro d
  induction d with
  | zero =>
    intro k i o hi hk ho
    obtain ⟨k, rfl⟩ : ∃ m, k = m + 1 := ⟨k - 1, by omega⟩
    rw [impl_SharesOf.l3, if_neg (by rw [up_length]; omega), List.drop_eq_nil_of_le (by omega)]
    rfl
  | succ d ih =>
    intro k i o hi hk ho
    obtain ⟨k, rfl⟩ : ∃ m, k = m + 1 := ⟨k - 1, by omega⟩
    have hil : i < op.length := by omega
    have hj := hop op[i] (List.getElem_mem _)
    rw [impl_SharesOf.l3, if_pos (by rw [up_length]; omega), if_pos (by omega), if_pos (by rw [up_length]; omega), up_get op i hil, if_pos (by omega), if_pos (by omega), step_nat i (by omega), Int.toNat_natCast, ih k (i + 1) _ (by omega) (by omega) (by rw [List.length_set]; exact ho), List.drop_eq_getElem_cons hil]
    rfl

theorem specSh_l3 (e : Int) (op : List Nat) (hn : op.length ≤ 100) (n : Nat) (hop : ∀ j ∈ op, j < n) : ∀ (d k i : Nat) (o : List Int), i + d = op.length → d < k → o.length = n → spec_shares.l3 k o (up op) e (i : Int) = some (fillAll e (op.drop i) o) := by
  intro d
  induction d with
  | zero =>
    intro k i o hi hk ho
    obtain ⟨k, rfl⟩ : ∃ m, k = m + 1 := ⟨k - 1, by omega⟩
    rw [spec_shares.l3, if_neg (by rw [up_length]; omega), List.drop_eq_nil_of_le (by omega)]
    rfl
  | succ d ih =>
    intro k i o hi hk ho
    obtain ⟨k, rfl⟩ : ∃ m, k = m + 1 := ⟨k - 1, by omega⟩
    have hil : i < op.length := by omega
    have hj := hop op[i] (List.getElem_mem _)
    rw [spec_shares.l3, if_pos (by rw [up_length]; omega), if_pos (by omega), up_get op i hil, if_pos (by omega), if_pos (by omega), step_nat i (by omega), Int.toNat_natCast, ih k (i + 1) _ (by omega) (by omega) (by rw [List.length_set]; exact ho), List.drop_eq_getElem_cons hil]
    rfl

theorem implSh_l2 (a : List Int) (ha : ∀ j, 0 ≤ a.getD j 0 ∧ a.getD j 0 ≤ 30) (e : Int) (op : List Nat) (hn : op.length ≤ 100) (hop : ∀ j ∈ op, j < a.length) : ∀ (d k i : Nat) (r : Int) (o : List Int) (nx : List Nat), i + d = op.length → o.length = a.length → nx.length ≤ i → r ≤ 100000 → -100000 + 30 * (d : Int) ≤ r →
    impl_SharesOf.l2 (k + d + 1) r a o (up op) e (up nx) (up op) ((up op).length : Int) (i : Int) = (if (nx ++ keepL a e (op.drop i)).length = op.length then impl_SharesOf.l3 k (settle a e (op.drop i) r o).2 e (up op) ((up op).length : Int) 0 else impl_SharesOf.l1 k (settle a e (op.drop i) r o).1 a (settle a e (op.drop i) r o).2 (up (nx ++ keepL a e (op.drop i)))) := by
  intro d
  induction d with
  | zero =>
    intro k i r o nx hi ho hx hr hr'
    rw [impl_SharesOf.l2, if_neg (by rw [up_length]; omega), List.drop_eq_nil_of_le (by omega), up_length, up_length]
    unfold keepL
    rw [List.filter_nil, List.append_nil, settle]
    by_cases h : nx.length = op.length
    · rw [if_pos h, if_pos (by omega)]
    · rw [if_neg h, if_neg (by omega)]
  | succ d ih =>
    intro k i r o nx hi ho hx hr hr'
    have hil : i < op.length := by omega
    have hj := hop op[i] (List.getElem_mem _)
    have hv := ha op[i]
    rw [show k + (d + 1) + 1 = (k + d + 1) + 1 from rfl, impl_SharesOf.l2, if_pos (by rw [up_length]; omega), if_pos (by omega), if_pos (by rw [up_length]; omega), up_get op i hil, if_pos (by omega), if_pos (by omega), rd_getD, step_nat i (by omega), Int.toNat_natCast, List.drop_eq_getElem_cons hil, settle]
    by_cases h : a.getD op[i] 0 ≤ e
    · rw [if_pos h, if_pos h, if_pos (by omega), IntWalk.wrap64_in (r - a.getD op[i] 0) (by omega), ih k (i + 1) _ _ nx (by omega) (by rw [List.length_set]; exact ho) (by omega) (by omega) (by omega)]
      rw [show keepL a e (op[i] :: op.drop (i + 1)) = keepL a e (op.drop (i + 1)) from List.filter_cons_of_neg (by simpa using h)]
    · rw [if_neg h, if_neg h, if_pos (by rw [up_length]; omega), up_append, ih k (i + 1) r o (nx ++ [op[i]]) (by omega) ho (by rw [List.length_append, List.length_singleton]; omega) (by omega) (by omega)]
      rw [show keepL a e (op[i] :: op.drop (i + 1)) = op[i] :: keepL a e (op.drop (i + 1)) from List.filter_cons_of_pos (by simpa using h), List.append_assoc]
      rfl

theorem specSh_l2 (a : List Int) (r : Int) (o : List Int) (e : Int) (op : List Nat) (hn : op.length ≤ 100) (hop : ∀ j ∈ op, j < a.length) : ∀ (d k i : Nat) (nx : List Nat), i + d = op.length → nx.length ≤ i →
    spec_shares.l2 (k + d + 1) r a o (up op) e (up nx) (i : Int) = (if (nx ++ keepL a e (op.drop i)).length = op.length then spec_shares.l3 k o (up op) e 0 else spec_shares.l4 k r a o (up op) e (up (nx ++ keepL a e (op.drop i))) 0) := by
  intro d
  induction d with
  | zero =>
    intro k i nx hi hx
    rw [spec_shares.l2, if_neg (by rw [up_length]; omega), List.drop_eq_nil_of_le (by omega), up_length, up_length]
    unfold keepL
    rw [List.filter_nil, List.append_nil]
    by_cases h : nx.length = op.length
    · rw [if_pos h, if_pos (by omega)]
    · rw [if_neg h, if_neg (by omega)]
  | succ d ih =>
    intro k i nx hi hx
    have hil : i < op.length := by omega
    have hj := hop op[i] (List.getElem_mem _)
    rw [show k + (d + 1) + 1 = (k + d + 1) + 1 from rfl, spec_shares.l2, if_pos (by rw [up_length]; omega), if_pos (by omega), up_get op i hil, if_pos (by omega), if_pos (by omega), rd_getD, step_nat i (by omega), List.drop_eq_getElem_cons hil]
    by_cases h : a.getD op[i] 0 ≤ e
    · rw [if_neg (by omega), ih k (i + 1) nx (by omega) (by omega)]
      rw [show keepL a e (op[i] :: op.drop (i + 1)) = keepL a e (op.drop (i + 1)) from List.filter_cons_of_neg (by simpa using h)]
    · rw [if_pos (by omega), if_pos (by rw [up_length]; omega), up_append, ih k (i + 1) (nx ++ [op[i]]) (by omega) (by rw [List.length_append, List.length_singleton]; omega)]
      rw [show keepL a e (op[i] :: op.drop (i + 1)) = op[i] :: keepL a e (op.drop (i + 1)) from List.filter_cons_of_pos (by simpa using h), List.append_assoc]
      rfl

theorem specSh_l4 (a : List Int) (ha : ∀ j, 0 ≤ a.getD j 0 ∧ a.getD j 0 ≤ 30) (e : Int) (op : List Nat) (hn : op.length ≤ 100) (hop : ∀ j ∈ op, j < a.length) (nx : List Int) : ∀ (d k i : Nat) (r : Int) (o : List Int), i + d = op.length → o.length = a.length → r ≤ 100000 → -100000 + 30 * (d : Int) ≤ r →
    spec_shares.l4 (k + d + 1) r a o (up op) e nx (i : Int) = spec_shares.l1 k (settle a e (op.drop i) r o).1 a (settle a e (op.drop i) r o).2 nx := by
  intro d
  induction d with
  | zero =>
    intro k i r o hi ho hr hr'
    rw [spec_shares.l4, if_neg (by rw [up_length]; omega), List.drop_eq_nil_of_le (by omega), settle]
  | succ d ih =>
    intro k i r o hi ho hr hr'
    have hil : i < op.length := by omega
    have hj := hop op[i] (List.getElem_mem _)
    have hv := ha op[i]
    rw [show k + (d + 1) + 1 = (k + d + 1) + 1 from rfl, spec_shares.l4, if_pos (by rw [up_length]; omega), if_pos (by omega), up_get op i hil, if_pos (by omega), if_pos (by omega), rd_getD, step_nat i (by omega), Int.toNat_natCast, List.drop_eq_getElem_cons hil, settle]
    by_cases h : a.getD op[i] 0 ≤ e
    · rw [if_pos h, if_pos h, if_pos (by omega), IntWalk.wrap64_in (r - a.getD op[i] 0) (by omega), ih k (i + 1) _ _ (by omega) (by rw [List.length_set]; exact ho) (by omega) (by omega)]
    · rw [if_neg h, if_neg h, ih k (i + 1) r o (by omega) ho (by omega) (by omega)]

theorem sh_l1 (a : List Int) (ha : ∀ j, 0 ≤ a.getD j 0 ∧ a.getD j 0 ≤ 30) : ∀ (D k k' : Nat) (r : Int) (o : List Int) (op : List Nat), op.length ≤ D → D ≤ 100 → 300 * D + 1 ≤ k → 300 * D + 1 ≤ k' → o.length = a.length → (∀ j ∈ op, j < a.length) → r ≤ 1000 → -90000 + 30 * (op.length : Int) ≤ r →
    impl_SharesOf.l1 k r a o (up op) = some (sharesM a D r o op) ∧ spec_shares.l1 k' r a o (up op) = some (sharesM a D r o op) := by
  intro D
  induction D with
  | zero =>
    intro k k' r o op hD _ hk hk' ho hop hr hr'
    obtain ⟨k, rfl⟩ : ∃ m, k = m + 1 := ⟨k - 1, by omega⟩
    obtain ⟨k', rfl⟩ : ∃ m, k' = m + 1 := ⟨k' - 1, by omega⟩
    rw [impl_SharesOf.l1, spec_shares.l1, if_neg (by rw [up_length]; omega), if_neg (by rw [up_length]; omega)]
    exact ⟨rfl, rfl⟩
  | succ D ih =>
    intro k k' r o op hD hD100 hk hk' ho hop hr hr'
    obtain ⟨k, rfl⟩ : ∃ m, k = (m + op.length + 1) + 1 := ⟨k - op.length - 2, by omega⟩
    obtain ⟨k', rfl⟩ : ∃ m, k' = ((m + op.length + 1) + op.length + 1) + 1 := ⟨k' - op.length - op.length - 3, by omega⟩
    rw [impl_SharesOf.l1, spec_shares.l1, sharesM]
    by_cases h0 : op.length = 0
    · rw [if_neg (show ¬ ((up op).length : Int) > 0 by rw [up_length]; omega), if_neg (show ¬ ((up op).length : Int) > 0 by rw [up_length]; omega), if_pos h0]
      exact ⟨rfl, rfl⟩
    · have hsh : wrap64 (Int.tdiv r ((up op).length : Int)) = shareOf r op := by
        unfold shareOf
        rw [up_length]
      rw [if_pos (show ((up op).length : Int) > 0 by rw [up_length]; omega), if_pos (show ((up op).length : Int) > 0 by rw [up_length]; omega), if_neg (show ¬ ((up op).length : Int) = 0 by rw [up_length]; omega), if_neg (show ¬ ((up op).length : Int) = 0 by rw [up_length]; omega), if_neg h0, hsh]
      have e1 := implSh_l2 a ha (shareOf r op) op (by omega) hop op.length k 0 r o [] (by omega) ho (by simp) (by omega) (by omega)
      have e2 := specSh_l2 a r o (shareOf r op) op (by omega) hop op.length (k' + op.length + 1) 0 [] (by omega) (by simp)
      rw [List.drop_zero, List.nil_append] at e1 e2
      rw [show ((0 : Nat) : Int) = 0 from rfl] at e1 e2
      have eu : up [] = ([] : List Int) := rfl
      rw [eu] at e1 e2
      rw [e1, e2]
      by_cases h1 : (keepL a (shareOf r op) op).length = op.length
      · rw [if_pos h1, if_pos h1, if_pos h1, settle_none a _ op r o h1]
        have f1 := implSh_l3 (shareOf r op) op (by omega) a.length hop op.length k 0 o (by omega) (by omega) ho
        have f2 := specSh_l3 (shareOf r op) op (by omega) a.length hop op.length (k' + op.length + 1) 0 o (by omega) (by omega) ho
        rw [List.drop_zero, show ((0 : Nat) : Int) = 0 from rfl] at f1 f2
        exact ⟨f1, f2⟩
      · have e3 := specSh_l4 a ha (shareOf r op) op (by omega) hop (up (keepL a (shareOf r op) op)) op.length k' 0 r o (by omega) ho (by omega) (by omega)
        rw [List.drop_zero, show ((0 : Nat) : Int) = 0 from rfl] at e3
        rw [if_neg h1, if_neg h1, if_neg h1, e3]
        have hle := keepL_le a (shareOf r op) op
        have hrm := settle_room a ha (shareOf r op) op r o
        exact ih k k' _ _ _ (by omega) (by omega) (by omega) (by omega) (by rw [settle_length]; exact ho) (fun j hj => hop j (List.mem_filter.1 hj).1) (by omega) (by omega)

def sharesOf (room : Int) (a : List Int) : List Int := if 0 ≤ room ∧ room ≤ 200 ∧ okL a = true ∧ a.length ≤ 16 then sharesM a a.length room (List.replicate a.length 0) (List.range a.length) else []

theorem okL_getD (a : List Int) (h : okL a = true) (j : Nat) : 0 ≤ a.getD j 0 ∧ a.getD j 0 ≤ 30 := by
  unfold okL at h
  rw [List.all_eq_true] at h
  rw [List.getD_eq_getElem?_getD]
  by_cases hj : j < a.length
  · rw [List.getElem?_eq_getElem hj]
    have := h a[j] (List.getElem_mem _)
    simpa using this
  · rw [List.getElem?_eq_none (by omega)]
    simp

theorem range_drop (n i : Nat) (h : i < n) : (List.range n).drop i = i :: (List.range n).drop (i + 1) := by
  rw [List.drop_eq_getElem_cons (by simpa using h)]
  simp

theorem implSh_l0 (r : Int) (a o : List Int) (hn : a.length ≤ 100) : ∀ (d k i : Nat), i + d = a.length → impl_SharesOf.l0 (k + d + 1) r a o (up ((List.range a.length).take i)) (a.length : Int) (i : Int) = impl_SharesOf.l1 k r a o (up (List.range a.length)) := by
  intro d
  induction d with
  | zero =>
    intro k i hi
    rw [impl_SharesOf.l0, if_neg (by omega), List.take_of_length_le (by simp; omega)]
  | succ d ih =>
    intro k i hi
    rw [show k + (d + 1) + 1 = (k + d + 1) + 1 from rfl, impl_SharesOf.l0, if_pos (by omega), if_pos (by rw [up_length, List.length_take]; omega), up_append, step_nat i (by omega)]
    have e : (List.range a.length).take i ++ [i] = (List.range a.length).take (i + 1) := by
      rw [List.take_succ_eq_append_getElem (by simp; omega)]
      simp
    rw [e]
    exact ih k (i + 1) (by omega)

theorem specSh_l0 (r : Int) (a o : List Int) (hn : a.length ≤ 100) : ∀ (d k i : Nat), i + d = a.length → spec_shares.l0 (k + d + 1) r a o (up ((List.range a.length).take i)) (i : Int) = spec_shares.l1 k r a o (up (List.range a.length)) := by
  intro d
  induction d with
  | zero =>
    intro k i hi
    rw [spec_shares.l0, if_neg (by omega), List.take_of_length_le (by simp; omega)]
  | succ d ih =>
    intro k i hi
    rw [show k + (d + 1) + 1 = (k + d + 1) + 1 from rfl, spec_shares.l0, if_pos (by omega), if_pos (by rw [up_length, List.length_take]; omega), up_append, step_nat i (by omega)]
    have e : (List.range a.length).take i ++ [i] = (List.range a.length).take (i + 1) := by
      rw [List.take_succ_eq_append_getElem (by simp; omega)]
      simp
    rw [e]
    exact ih k (i + 1) (by omega)

theorem sharesOf_ok (room : Int) (a : List Int) (hl : a.length ≤ 2000000) (k : Nat) (hk : 6000 + a.length ≤ k) : impl_SharesOf.f k room a = some (sharesOf room a) ∧ spec_SharesOf.f k room a = some (sharesOf room a) := by
  have hz : up ((List.range a.length).take 0) = ([] : List Int) := rfl
  unfold impl_SharesOf.f spec_SharesOf.f sharesOf
  rw [within_val, inRange_val, Option.bind_some, Option.bind_some]
  by_cases h1 : 0 ≤ room ∧ room ≤ 200
  · rw [decide_eq_true h1, if_pos rfl, if_pos rfl, loadsOk_val, Option.bind_some, validLoads_ok a hl k (by omega), Option.bind_some]
    by_cases h2 : okL a = true ∧ a.length ≤ 16
    · obtain ⟨h2, h3⟩ := h2
      obtain ⟨k, rfl⟩ : ∃ m, k = (m + a.length + 1) + 1 := ⟨k - a.length - 2, by omega⟩
      have hm := fun k k' hk hk' => sh_l1 a (okL_getD a h2) a.length k k' room (List.replicate a.length 0) (List.range a.length) (by simp) (by omega) hk hk' (by simp) (fun j hj => by simpa using hj) (by omega) (by simp; omega)
      have e1 := implSh_l0 room a (List.replicate a.length 0) (by omega) a.length k 0 (by omega)
      have e2 := specSh_l0 room a (List.replicate a.length 0) (by omega) a.length (k + 1) 0 (by omega)
      rw [hz, show ((0 : Nat) : Int) = 0 from rfl] at e1 e2
      rw [if_pos ⟨h1.1, h1.2, h2, h3⟩, h2, decide_eq_true h3]
      show impl_SharesOf.j0 (k + a.length + 1 + 1) room a false = _ ∧ ((spec_shares.f (k + a.length + 1 + 1) room a).bind fun t142 => some t142) = _
      unfold spec_shares.f
      rw [impl_SharesOf.j0, if_neg Bool.false_ne_true, if_pos (by omega), if_pos (by rw [Int.toNat_natCast]; omega), if_pos (by omega), if_pos (by rw [Int.toNat_natCast]; omega), Int.toNat_natCast, e1, show k + a.length + 1 + 1 = (k + 1) + a.length + 1 by omega, e2]
      obtain ⟨g1, g2⟩ := hm k (k + 1) (by omega) (by omega)
      rw [g1, g2]
      exact ⟨rfl, rfl⟩
    · obtain ⟨k, rfl⟩ : ∃ m, k = m + 1 := ⟨k - 1, by omega⟩
      have hb : (okL a && decide (a.length ≤ 16)) = false := by
        rw [Bool.and_eq_false_iff]
        by_cases h3 : okL a = true
        · exact .inr (decide_eq_false (fun h => h2 ⟨h3, h⟩))
        · exact .inl (Bool.eq_false_iff.mpr h3)
      rw [hb, if_neg (fun h => h2 ⟨h.2.2.1, h.2.2.2⟩), if_neg Bool.false_ne_true, Bool.not_false, impl_SharesOf.j0, if_pos rfl]
      exact ⟨rfl, rfl⟩
  · obtain ⟨k, rfl⟩ : ∃ m, k = m + 1 := ⟨k - 1, by omega⟩
    rw [decide_eq_false h1, if_neg Bool.false_ne_true, if_neg Bool.false_ne_true, if_neg (fun h => h1 ⟨h.1, h.2.1⟩), impl_SharesOf.j0, if_pos rfl]
    exact ⟨rfl, rfl⟩

theorem getD_set (o : List Int) (i j : Nat) (v : Int) (h : i < o.length) : (o.set i v).getD j 0 = if j = i then v else o.getD j 0 := by
  rw [List.getD_eq_getElem?_getD, List.getD_eq_getElem?_getD]
  by_cases e : j = i
  · subst e
    rw [if_pos rfl, List.getElem?_set_self h]
    rfl
  · rw [if_neg e, List.getElem?_set_ne (fun h => e h.symm)]
theorem sum_set : ∀ (o : List Int) (i : Nat) (v : Int), i < o.length → (o.set i v).sum = o.sum - o.getD i 0 + v := by
  intro o
  induction o with
  | nil => intro i v h; simp at h
  | cons x t ih =>
    intro i v h
    cases i with
    | zero => rw [List.set_cons_zero, List.sum_cons, List.sum_cons]; show v + t.sum = x + t.sum - x + v; omega
    | succ i =>
      rw [List.length_cons] at h
      rw [List.set_cons_succ, List.sum_cons, List.sum_cons, ih i v (by omega)]
      show x + (t.sum - t.getD i 0 + v) = x + t.sum - t.getD i 0 + v
      omega
theorem settle_facts (a : List Int) (e : Int) : ∀ (t : List Nat) (r : Int) (o : List Int), t.Nodup → (∀ j ∈ t, j < o.length) → (∀ j ∈ t, o.getD j 0 = 0) →
    (settle a e t r o).2.sum + (settle a e t r o).1 = o.sum + r ∧ (∀ j, (settle a e t r o).2.getD j 0 = if j ∈ t ∧ a.getD j 0 ≤ e then a.getD j 0 else o.getD j 0) ∧ r + e * ((keepL a e t).length : Int) ≤ (settle a e t r o).1 + e * (t.length : Int) := by
  intro t
  induction t with
  | nil =>
    intro r o _ _ _
    exact ⟨rfl, fun j => by rw [if_neg (by simp)]; rfl, by simp [settle, keepL]⟩
  | cons i t ih =>
    intro r o hnd hlt hz
    obtain ⟨hni, hnd'⟩ := List.nodup_cons.1 hnd
    have hi := hlt i (List.mem_cons_self ..)
    have hzi := hz i (List.mem_cons_self ..)
    rw [settle]
    by_cases h : a.getD i 0 ≤ e
    · obtain ⟨g1, g2, g3⟩ := ih (r - a.getD i 0) (o.set i (a.getD i 0)) hnd' (fun j hj => by rw [List.length_set]; exact hlt j (List.mem_cons_of_mem _ hj)) (fun j hj => by
        rw [getD_set o i j _ hi, if_neg (fun (h_ : j = i) => hni (h_ ▸ hj))]
        exact hz j (List.mem_cons_of_mem _ hj))
      rw [if_pos h]
      refine ⟨by rw [g1, sum_set o i _ hi, hzi]; omega, fun j => ?_, ?_⟩
      · rw [g2 j, getD_set o i j _ hi]
        by_cases ej : j = i
        · subst ej
          rw [if_neg (fun h2 => hni h2.1), if_pos rfl, if_pos ⟨List.mem_cons_self .., h⟩]
        · rw [if_neg ej]
          by_cases h2 : j ∈ t ∧ a.getD j 0 ≤ e
          · rw [if_pos h2, if_pos ⟨List.mem_cons_of_mem _ h2.1, h2.2⟩]
          · rw [if_neg h2, if_neg (fun h3 => h2 ⟨(List.mem_cons.1 h3.1).resolve_left ej, h3.2⟩)]
      · rw [show keepL a e (i :: t) = keepL a e t from List.filter_cons_of_neg (by simpa using h), List.length_cons, Int.natCast_add, Int.mul_add]
        show _ ≤ _ + (_ + e * 1)
        rw [Int.mul_one]
        omega
    · obtain ⟨g1, g2, g3⟩ := ih r o hnd' (fun j hj => hlt j (List.mem_cons_of_mem _ hj)) (fun j hj => hz j (List.mem_cons_of_mem _ hj))
      rw [if_neg h]
      refine ⟨g1, fun j => ?_, ?_⟩
      · rw [g2 j]
        by_cases ej : j = i
        · subst ej
          rw [if_neg (fun h2 => h h2.2), if_neg (fun h2 => h h2.2)]
        · by_cases h2 : j ∈ t ∧ a.getD j 0 ≤ e
          · rw [if_pos h2, if_pos ⟨List.mem_cons_of_mem _ h2.1, h2.2⟩]
          · rw [if_neg h2, if_neg (fun h3 => h2 ⟨(List.mem_cons.1 h3.1).resolve_left ej, h3.2⟩)]
      · rw [show keepL a e (i :: t) = i :: keepL a e t from List.filter_cons_of_pos (by simpa using h), List.length_cons, List.length_cons, Int.natCast_add, Int.natCast_add, Int.mul_add, Int.mul_add]
        omega
theorem fill_facts (e : Int) : ∀ (t : List Nat) (o : List Int), t.Nodup → (∀ j ∈ t, j < o.length) → (∀ j ∈ t, o.getD j 0 = 0) →
    (fillAll e t o).length = o.length ∧ (fillAll e t o).sum = o.sum + e * (t.length : Int) ∧ (∀ j, (fillAll e t o).getD j 0 = if j ∈ t then e else o.getD j 0) := by
  intro t
  induction t with
  | nil => intro o _ _ _; exact ⟨rfl, by simp [fillAll], fun j => by rw [if_neg (by simp)]; rfl⟩
  | cons i t ih =>
    intro o hnd hlt hz
    obtain ⟨hni, hnd'⟩ := List.nodup_cons.1 hnd
    have hi := hlt i (List.mem_cons_self ..)
    have hzi := hz i (List.mem_cons_self ..)
    obtain ⟨g0, g1, g2⟩ := ih (o.set i e) hnd' (fun j hj => by rw [List.length_set]; exact hlt j (List.mem_cons_of_mem _ hj)) (fun j hj => by
      rw [getD_set o i j _ hi, if_neg (fun (h_ : j = i) => hni (h_ ▸ hj))]
      exact hz j (List.mem_cons_of_mem _ hj))
    rw [fillAll]
    refine ⟨by rw [g0, List.length_set], by rw [g1, sum_set o i _ hi, hzi, List.length_cons, Int.natCast_add, Int.mul_add]; show o.sum - 0 + e + _ = o.sum + (_ + e * 1); rw [Int.mul_one]; omega, fun j => ?_⟩
    rw [g2 j, getD_set o i j _ hi]
    by_cases ej : j = i
    · subst ej
      rw [if_neg hni, if_pos rfl, if_pos (List.mem_cons_self ..)]
    · rw [if_neg ej]
      by_cases h2 : j ∈ t
      · rw [if_pos h2, if_pos (List.mem_cons_of_mem _ h2)]
      · rw [if_neg h2, if_neg (fun h3 => h2 ((List.mem_cons.1 h3).resolve_left ej))]

def shortN (a out : List Int) (n : Nat) : Nat := ((List.range n).filter fun j => decide (out.getD j 0 < a.getD j 0)).length
def goodSh (a : List Int) (r0 : Int) (out : List Int) : Prop :=
  out.length = a.length ∧ (∀ j, j < a.length → 0 ≤ out.getD j 0 ∧ out.getD j 0 ≤ a.getD j 0) ∧ (∀ j, j < a.length → out.getD j 0 < a.getD j 0 → ∀ i, i < a.length → out.getD i 0 ≤ out.getD j 0) ∧ out.sum ≤ r0 ∧ (shortN a out a.length = 0 ∨ r0 - out.sum < (shortN a out a.length : Int))

theorem sharesM_good (a : List Int) (ha : ∀ j, 0 ≤ a.getD j 0 ∧ a.getD j 0 ≤ 30) (hn : a.length ≤ 16) (r0 : Int) : ∀ (D : Nat) (r : Int) (o : List Int) (q : Nat → Bool) (E : Int), ((List.range a.length).filter q).length ≤ D → 0 ≤ r → r ≤ 1000 → o.length = a.length →
    (∀ j, j < a.length → q j = true → o.getD j 0 = 0) → (∀ j, j < a.length → q j = false → o.getD j 0 = a.getD j 0 ∧ a.getD j 0 ≤ E) → E * (((List.range a.length).filter q).length : Int) ≤ r → o.sum + r = r0 →
    goodSh a r0 (sharesM a D r o ((List.range a.length).filter q)) := by
  have hempty : ∀ (r : Int) (o : List Int) (q : Nat → Bool) (E : Int), ((List.range a.length).filter q).length = 0 → 0 ≤ r → o.length = a.length → (∀ j, j < a.length → q j = false → o.getD j 0 = a.getD j 0 ∧ a.getD j 0 ≤ E) → o.sum + r = r0 → goodSh a r0 o := by
    intro r o q E h0 hr ho hf hs
    have hq : ∀ j, j < a.length → q j = false := by
      intro j hj
      have hnil := List.length_eq_zero_iff.1 h0
      rw [List.filter_eq_nil_iff] at hnil
      exact Bool.eq_false_iff.mpr (hnil j (List.mem_range.2 hj))
    have he : ∀ j, j < a.length → o.getD j 0 = a.getD j 0 := fun j hj => (hf j hj (hq j hj)).1
    refine ⟨ho, fun j hj => by rw [he j hj]; exact ⟨(ha j).1, Int.le_refl _⟩, fun j hj hlt => by rw [he j hj] at hlt; omega, by omega, .inl ?_⟩
    unfold shortN
    rw [List.length_eq_zero_iff, List.filter_eq_nil_iff]
    intro j hj
    rw [he j (List.mem_range.1 hj)]
    simp
  intro D
  induction D with
  | zero =>
    intro r o q E hD hr hr' ho hz hf hE hs
    exact hempty r o q E (by omega) hr ho hf hs
  | succ D ih =>
    intro r o q E hD hr hr' ho hz hf hE hs
    rw [sharesM]
    have hnd : ((List.range a.length).filter q).Nodup := List.nodup_range.sublist List.filter_sublist
    have hmem : ∀ j, j ∈ (List.range a.length).filter q ↔ j < a.length ∧ q j = true := fun j => by rw [List.mem_filter, List.mem_range]
    by_cases h0 : ((List.range a.length).filter q).length = 0
    · rw [if_pos h0]
      exact hempty r o q E h0 hr ho hf hs
    · rw [if_neg h0]
      generalize hop : (List.range a.length).filter q = op at *
      have hl0 : (1 : Int) ≤ (op.length : Int) := by omega
      have hl16 : op.length ≤ 16 := by
        have := List.length_filter_le q (List.range a.length)
        rw [hop, List.length_range] at this
        omega
      have hsh : shareOf r op = r / (op.length : Int) := by
        unfold shareOf
        rw [Int.tdiv_eq_ediv_of_nonneg hr]
        have h1 : 0 ≤ r / (op.length : Int) := Int.ediv_nonneg hr (by omega)
        have h2 : r / (op.length : Int) ≤ r := Int.ediv_le_self _ hr
        exact IntWalk.wrap64_in _ (by omega)
      have e0 : 0 ≤ shareOf r op := by rw [hsh]; exact Int.ediv_nonneg hr (by omega)
      have e1 : shareOf r op * (op.length : Int) ≤ r := by rw [hsh]; exact Int.ediv_mul_le _ (by omega)
      have e2 : r < shareOf r op * (op.length : Int) + (op.length : Int) := by
        rw [hsh]
        have := Int.lt_ediv_add_one_mul_self r (show (0 : Int) < (op.length : Int) by omega)
        rw [Int.add_mul, Int.one_mul] at this
        exact this
      have e3 : E ≤ shareOf r op := by rw [hsh]; exact (Int.le_ediv_iff_mul_le (by omega)).2 hE
      generalize shareOf r op = e at e0 e1 e2 e3 ⊢
      have hlt : ∀ j ∈ op, j < o.length := fun j hj => by rw [ho]; exact ((hmem j).1 hj).1
      have hz' : ∀ j ∈ op, o.getD j 0 = 0 := fun j hj => hz j ((hmem j).1 hj).1 ((hmem j).1 hj).2
      by_cases h1 : (keepL a e op).length = op.length
      · rw [if_pos h1]
        have hall : ∀ j ∈ op, ¬ a.getD j 0 ≤ e := by
          intro j hj
          have := List.length_filter_eq_length_iff.1 h1 j hj
          simpa using this
        obtain ⟨g0, g1, g2⟩ := fill_facts e op o hnd hlt hz'
        have hin : ∀ j, j ∈ op → (fillAll e op o).getD j 0 = e := fun j hj => by rw [g2 j, if_pos hj]
        have hout : ∀ j, j < a.length → j ∉ op → (fillAll e op o).getD j 0 = a.getD j 0 ∧ a.getD j 0 ≤ e := fun j hj hn => by
          have hq : q j = false := Bool.eq_false_iff.mpr (fun h => hn ((hmem j).2 ⟨hj, h⟩))
          have := hf j hj hq
          rw [g2 j, if_neg hn]
          exact ⟨this.1, by omega⟩
        have hshort : shortN a (fillAll e op o) a.length = op.length := by
          unfold shortN
          refine (congrArg List.length (?_ : (List.range a.length).filter (fun j => decide ((fillAll e op o).getD j 0 < a.getD j 0)) = (List.range a.length).filter q)).trans (congrArg List.length hop)
          apply List.filter_congr
          intro j hj
          have hj' := List.mem_range.1 hj
          by_cases hm : j ∈ op
          · rw [hin j hm, ((hmem j).1 hm).2]
            exact decide_eq_true (by have := hall j hm; omega)
          · have hq : q j = false := Bool.eq_false_iff.mpr (fun h => hm ((hmem j).2 ⟨hj', h⟩))
            rw [(hout j hj' hm).1, hq]
            exact decide_eq_false (by omega)
        refine ⟨by rw [g0, ho], fun j hj => ?_, fun j hj hl i hi => ?_, by rw [g1]; omega, .inr (by rw [hshort, g1]; omega)⟩
        · by_cases hm : j ∈ op
          · rw [hin j hm]
            have := hall j hm
            omega
          · rw [(hout j hj hm).1]
            exact ⟨(ha j).1, Int.le_refl _⟩
        · by_cases hm : j ∈ op
          · rw [hin j hm]
            by_cases hm2 : i ∈ op
            · rw [hin i hm2]; exact Int.le_refl _
            · rw [(hout i hi hm2).1]
              exact (hout i hi hm2).2
          · rw [(hout j hj hm).1] at hl
            omega
      · rw [if_neg h1]
        obtain ⟨g1, g2, g3⟩ := settle_facts a e op r o hnd hlt hz'
        have hk : keepL a e op = (List.range a.length).filter (fun j => decide (¬ a.getD j 0 ≤ e) && q j) := by
          unfold keepL
          rw [← hop, List.filter_filter]
        have hle := keepL_le a e op
        have hrm := settle_room a ha e op r o
        have hp : 0 ≤ e * ((keepL a e op).length : Int) := Int.mul_nonneg e0 (by omega)
        have hE' : e * ((keepL a e op).length : Int) ≤ (settle a e op r o).1 := by omega
        rw [hk] at hE' hle h1 hp ⊢
        refine ih _ _ _ e (by omega) (by omega) (by omega) (by rw [settle_length]; exact ho) (fun j hj hq => ?_) (fun j hj hq => ?_) hE' (by omega)
        · rw [Bool.and_eq_true, decide_eq_true_eq] at hq
          rw [g2 j, if_neg (fun h => hq.1 h.2)]
          exact hz j hj hq.2
        · rw [g2 j]
          by_cases hm : j ∈ op
          · have hq2 := ((hmem j).1 hm).2
            rw [hq2, Bool.and_true, decide_eq_false_iff_not, Decidable.not_not] at hq
            rw [if_pos ⟨hm, hq⟩]
            exact ⟨rfl, hq⟩
          · have hq2 : q j = false := Bool.eq_false_iff.mpr (fun h => hm ((hmem j).2 ⟨hj, h⟩))
            have := hf j hj hq2
            rw [if_neg (fun h => hm h.1)]
            exact ⟨this.1, by omega⟩

theorem sharesOf_good (room : Int) (a : List Int) (h : 0 ≤ room ∧ room ≤ 200 ∧ okL a = true ∧ a.length ≤ 16) : goodSh a room (sharesOf room a) := by
  unfold sharesOf
  rw [if_pos h]
  have hq : (List.range a.length).filter (fun _ => true) = List.range a.length := List.filter_eq_self.2 (fun _ _ => rfl)
  have hz : ∀ j, (List.replicate a.length (0 : Int)).getD j 0 = 0 := by
    intro j
    rw [List.getD_eq_getElem?_getD, List.getElem?_replicate]
    by_cases hj : j < a.length
    · rw [if_pos hj]; rfl
    · rw [if_neg hj]; rfl
  have hs : (List.replicate a.length (0 : Int)).sum = 0 := by
    generalize a.length = n
    induction n with
    | zero => rfl
    | succ n ih => rw [List.replicate_succ, List.sum_cons, ih]; rfl
  have := sharesM_good a (okL_getD a h.2.2.1) h.2.2.2 room a.length room (List.replicate a.length 0) (fun _ => true) 0 (by rw [hq, List.length_range]; omega) h.1 (by omega) (by simp) (fun j _ _ => hz j) (fun j _ hj => by cases hj) (by omega) (by rw [hs]; omega)
  rw [hq] at this
  exact this

theorem xor64_range (a b : Int) (ha : 0 ≤ a) (ha' : a < 1073741824) (hb : 0 ≤ b) (hb' : b < 1073741824) :
    0 ≤ Go.bits .xor .i64 a b ∧ Go.bits .xor .i64 a b < 1073741824 := by
  obtain ⟨m, rfl⟩ := Int.eq_ofNat_of_zero_le ha
  obtain ⟨n, rfl⟩ := Int.eq_ofNat_of_zero_le hb
  have hm : m < 2 ^ 30 := by omega
  have hn : n < 2 ^ 30 := by omega
  have hx : m ^^^ n < 2 ^ 30 := Nat.xor_lt_two_pow hm hn
  have hm' : m % 2 ^ IntKind.i64.bits = m := Nat.mod_eq_of_lt (Nat.lt_of_lt_of_le hm (by decide))
  have hn' : n % 2 ^ IntKind.i64.bits = n := Nat.mod_eq_of_lt (Nat.lt_of_lt_of_le hn (by decide))
  simp only [Go.bits, BitVec.ofInt_natCast, BitVec.toNat_xor, BitVec.toNat_ofNat, hm', hn']
  rw [IntWalk.i64_in ((m ^^^ n : Nat) : Int) (by omega)]
  omega

theorem rd_range (l : List Int) (hl : ∀ x ∈ l, 0 ≤ x ∧ x ≤ 255) (i : Int) : 0 ≤ rd l i ∧ rd l i ≤ 255 := by
  unfold rd
  rw [List.getD_eq_getElem?_getD]
  cases h : l[i.toNat]? with
  | none => simp
  | some v => exact hl v (List.mem_of_getElem? h)

theorem tmod_range (a n : Int) (ha : 0 ≤ a) (hn : 1 ≤ n) : 0 ≤ Int.tmod a n ∧ Int.tmod a n < n :=
  ⟨Int.tmod_nonneg n ha, Int.tmod_lt_of_pos a (by omega)⟩

theorem pick_ok (l : List Int) (hl : ∀ x ∈ l, 0 ≤ x ∧ x ≤ 255) (hn : l.length ≤ 2000) (k : Nat) (p n : Int) (hp : 0 ≤ p) (hp' : p ≤ 1000000) :
    ∃ v, spec_reader_pick.f (k + 1) l p n = some (v, p + 1) ∧ 0 ≤ v ∧ (1 ≤ n → v < n) := by
  have hw : wrap64 (p + 1) = p + 1 := IntWalk.wrap64_in _ (by omega)
  unfold spec_reader_pick.f
  rw [hw]
  by_cases h1 : n < 1
  · rw [if_pos h1]
    exact ⟨0, by simp [spec_reader_pick.j0], by omega, fun h => by omega⟩
  · rw [if_neg h1]
    by_cases h2 : l.length = 0
    · exact ⟨0, by simp [spec_reader_pick.j0, h2], by omega, fun h => by omega⟩
    · have hb : ((l.length : Int) == 0) = false := beq_eq_false_iff_ne.mpr (by omega)
      have hw1 : wrap64 (p + 1 - 1) = p := (IntWalk.wrap64_in (p + 1 - 1) (by omega)).trans (by omega)
      have hn0 : n ≠ 0 := by omega
      have hl0 : (l.length : Int) ≠ 0 := by omega
      simp only [spec_reader_pick.j0, hb, hw1, Bool.false_eq_true, if_false, hn0, hl0]
      by_cases h3 : p < (l.length : Int)
      · rw [if_pos h3, if_pos hp]
        have hr := rd_range l hl p
        rw [IntWalk.wrap64_in (rd l p) (by omega)]
        have ht := tmod_range (rd l p) n hr.1 (by omega)
        exact ⟨_, rfl, ht.1, fun _ => ht.2⟩
      · rw [if_neg h3]
        have hm1 := tmod_range p (l.length : Int) hp (by omega)
        rw [if_pos hm1.1, if_pos hm1.2]
        have hw7 : wrap64 (p * 7) = p * 7 := IntWalk.wrap64_in _ (by omega)
        have hw73 : wrap64 (p * 7 + 3) = p * 7 + 3 := IntWalk.wrap64_in _ (by omega)
        rw [hw7, hw73]
        have hm2 := tmod_range (p * 7 + 3) (l.length : Int) (by omega) (by omega)
        rw [if_pos hm2.1, if_pos hm2.2]
        have hr1 := rd_range l hl (Int.tmod p (l.length : Int))
        have hr2 := rd_range l hl (Int.tmod (p * 7 + 3) (l.length : Int))
        generalize rd l (Int.tmod p (l.length : Int)) = r1 at hr1 ⊢
        generalize rd l (Int.tmod (p * 7 + 3) (l.length : Int)) = r2 at hr2 ⊢
        have hq : 0 ≤ Int.tdiv p (l.length : Int) ∧ Int.tdiv p (l.length : Int) ≤ p := by
          rw [Int.tdiv_eq_ediv_of_nonneg hp]
          exact ⟨Int.ediv_nonneg hp (by omega), Int.ediv_le_self _ hp⟩
        generalize Int.tdiv p (l.length : Int) = q at hq ⊢
        simp (disch := omega) only [IntWalk.wrap64_in]
        have hX : 0 ≤ r1 * 131 + r2 * 1117 + p * 29 + q * 53 ∧ r1 * 131 + r2 * 1117 + p * 29 + q * 53 < 1073741824 := by omega
        generalize r1 * 131 + r2 * 1117 + p * 29 + q * 53 = X at hX ⊢
        have hd : 0 ≤ Int.tdiv X 64 ∧ Int.tdiv X 64 < 1073741824 := by
          rw [Int.tdiv_eq_ediv_of_nonneg hX.1]; omega
        rw [IntWalk.wrap64_in (Int.tdiv X 64) (by omega)]
        have hx := xor64_range X (Int.tdiv X 64) hX.1 hX.2 hd.1 hd.2
        have ht := tmod_range (Go.bits .xor .i64 X (Int.tdiv X 64)) n hx.1 (by omega)
        exact ⟨_, rfl, ht.1, fun _ => ht.2⟩

theorem reader_ok (l0 : List Int) (hw : ∀ x ∈ l0, (Lit.int .u8 x).wf = true) :
    ∃ l, spec_newReader.f l0 = some (l, 0) ∧ (∀ x ∈ l, 0 ≤ x ∧ x ≤ 255) ∧ l.length ≤ 2000 := by
  have hb : ∀ x ∈ l0, 0 ≤ x ∧ x ≤ 255 := by
    intro x hx
    have h := hw x hx
    simp [Lit.wf, IntKind.min, IntKind.max, IntKind.signed, IntKind.bits] at h
    omega
  unfold spec_newReader.f
  by_cases h : (l0.length : Int) > 2000
  · rw [if_pos h, if_pos (by omega)]
    exact ⟨_, rfl, fun x hx => hb x (List.mem_of_mem_take hx), by rw [List.length_take]; omega⟩
  · rw [if_neg h]
    exact ⟨_, rfl, hb, by omega⟩

theorem one_ok (l : List Int) (hl : ∀ x ∈ l, 0 ≤ x ∧ x ≤ 255) (hn : l.length ≤ 2000) (k : Nat) (p : Int) (xs : List Int) (hp : 0 ≤ p) (hp' : p ≤ 1000000) (hx : 1 ≤ xs.length) :
    ∃ v, spec_reader_one.f (k + 1) l p xs = some (v, p + 1) ∧ v ∈ xs := by
  obtain ⟨v, hv, h0, h1⟩ := pick_ok l hl hn k p (xs.length : Int) hp hp'
  have h2 := h1 (by omega)
  unfold spec_reader_one.f
  rw [hv]
  simp only [Option.bind_some]
  rw [if_pos h0, if_pos h2]
  refine ⟨_, rfl, ?_⟩
  unfold rd
  have h3 : v.toNat < xs.length := by omega
  rw [List.getD_eq_getElem?_getD, List.getElem?_eq_getElem h3]
  exact List.getElem_mem h3

theorem someLoads_l0 (l : List Int) (hb : ∀ x ∈ l, 0 ≤ x ∧ x ≤ 255) (hn : l.length ≤ 2000) : ∀ (d k n : Nat) (o : List Int) (p : Int), d = n - o.length → d + 3 ≤ k → n ≤ 16 → o.length ≤ 16 → 0 ≤ p → p ≤ 700000 - 4 * d → (∀ x ∈ o, -1 ≤ x ∧ x ≤ 31) →
    ∃ o' p', spec_someLoads.l0 k o (n : Int) l p = some (o', p') ∧ o'.length ≤ 33 ∧ (∀ x ∈ o', -1 ≤ x ∧ x ≤ 31) ∧ p ≤ p' ∧ p' ≤ p + 4 * d + 1 := by
  intro d
  induction d with
  | zero =>
    intro k n o p hd hk hn16 ho hp hp' hx
    obtain ⟨k, rfl⟩ : ∃ m, k = m + 1 + 1 := ⟨k - 2, by omega⟩
    obtain ⟨v, hv, h0, h1⟩ := pick_ok l hb hn k p 30 hp (by omega)
    simp only [spec_someLoads.l0]
    rw [if_neg (by omega), hv]
    simp only [Option.bind_some]
    have happ : ∀ y : List Int, (∀ x ∈ y, -1 ≤ x ∧ x ≤ 31) → ∀ x ∈ o ++ y, -1 ≤ x ∧ x ≤ 31 := fun y hy x hxx => by
      rcases List.mem_append.1 hxx with h | h
      · exact hx x h
      · exact hy x h
    by_cases e0 : v = 0
    · rw [if_pos e0, if_pos (by omega)]
      exact ⟨_, _, rfl, by simp; omega, happ _ (by simp), by omega, by omega⟩
    · rw [if_neg e0]
      by_cases e1 : v = 1
      · rw [if_pos e1, if_pos (by omega)]
        exact ⟨_, _, rfl, by simp; omega, happ _ (by simp), by omega, by omega⟩
      · rw [if_neg e1]
        by_cases e2 : v = 2
        · rw [if_pos e2, if_pos (by simp; omega)]
          exact ⟨_, _, rfl, by simp; omega, happ _ (by simp), by omega, by omega⟩
        · rw [if_neg e2]
          exact ⟨_, _, rfl, by omega, hx, by omega, by omega⟩
  | succ d ih =>
    intro k n o p hd hk hn16 ho hp hp' hx
    obtain ⟨k, rfl⟩ : ∃ m, k = m + 1 + 1 := ⟨k - 2, by omega⟩
    obtain ⟨a, ha, ha0, ha1⟩ := pick_ok l hb hn k p 31 hp (by omega)
    obtain ⟨b, hb1, hb0, hb2⟩ := pick_ok l hb hn k (p + 1) 6 (by omega) (by omega)
    obtain ⟨c, hc, hc0, hc1⟩ := pick_ok l hb hn k (p + 1 + 1) 12 (by omega) (by omega)
    obtain ⟨e, he, hmem⟩ := one_ok l hb hn k (p + 1 + 1 + 1) [a, b, 0, c] (by omega) (by omega) (by simp)
    have her : -1 ≤ e ∧ e ≤ 31 := by
      have h1 := ha1 (by omega)
      have h2 := hb2 (by omega)
      have h3 := hc1 (by omega)
      simp only [List.mem_cons, List.not_mem_nil, or_false] at hmem
      omega
    simp only [spec_someLoads.l0]
    rw [if_pos (by omega)]
    simp only [ha, hb1, hc, he, Option.bind_some]
    rw [if_pos (by omega)]
    obtain ⟨o', p', h1, h2, h3, h4, h5⟩ := ih (k + 1) n (o ++ [e]) (p + 1 + 1 + 1 + 1) (by rw [List.length_append, List.length_singleton]; omega) (by omega) hn16 (by rw [List.length_append, List.length_singleton]; omega) (by omega) (by omega) (fun x hxx => by
      rcases List.mem_append.1 hxx with h | h
      · exact hx x h
      · rw [List.mem_singleton.1 h]; exact her)
    exact ⟨o', p', h1, h2, h3, by omega, by omega⟩

theorem someLoads_ok (l : List Int) (hb : ∀ x ∈ l, 0 ≤ x ∧ x ≤ 255) (hn : l.length ≤ 2000) (k : Nat) (hk : 30 ≤ k) (p : Int) (hp : 0 ≤ p) (hp' : p ≤ 600000) :
    ∃ o' p', spec_someLoads.f k l p = some (o', p') ∧ o'.length ≤ 33 ∧ (∀ x ∈ o', -1 ≤ x ∧ x ≤ 31) ∧ p ≤ p' ∧ p' ≤ p + 100 := by
  obtain ⟨k, rfl⟩ : ∃ m, k = m + 1 := ⟨k - 1, by omega⟩
  obtain ⟨v, hv, hmem⟩ := one_ok l hb hn k p [5, 8, 4, 3, 12, 2, 1, 0, 16] hp (by omega) (by simp)
  have hvr : 0 ≤ v ∧ v ≤ 16 := by
    simp only [List.mem_cons, List.not_mem_nil, or_false] at hmem
    omega
  obtain ⟨m, rfl⟩ := Int.eq_ofNat_of_zero_le hvr.1
  unfold spec_someLoads.f
  simp only [hv, Option.bind_some]
  obtain ⟨o', p', h1, h2, h3, h4, h5⟩ := someLoads_l0 l hb hn m (k + 1) m [] (p + 1) (by simp) (by omega) (by omega) (by simp) (by omega) (by omega) (by simp)
  exact ⟨o', p', h1, h2, h3, by omega, by omega⟩

theorem equalInts_l0 (a b : List Int) (hab : a.length = b.length) (hl : a.length ≤ 2000000) : ∀ (d k i : Nat), i + d = a.length → d < k → laws_equalInts.l0 k a b (i : Int) = some (decide (a.drop i = b.drop i)) := by
  intro d
  induction d with
  | zero =>
    intro k i hi hk
    obtain ⟨k, rfl⟩ : ∃ m, k = m + 1 := ⟨k - 1, by omega⟩
    simp only [laws_equalInts.l0]
    rw [if_neg (by omega), List.drop_eq_nil_of_le (by omega), List.drop_eq_nil_of_le (by omega)]
    rfl
  | succ d ih =>
    intro k i hi hk
    obtain ⟨k, rfl⟩ : ∃ m, k = m + 1 := ⟨k - 1, by omega⟩
    simp only [laws_equalInts.l0]
    rw [if_pos (by omega), if_pos (by omega), if_pos (by omega), step_nat i (by omega), rd_nat a i (by omega), rd_nat b i (by omega)]
    rw [List.drop_eq_getElem_cons (by omega : i < a.length), List.drop_eq_getElem_cons (by omega : i < b.length)]
    by_cases e : a[i]'(by omega) = b[i]'(by omega)
    · rw [if_pos e, ih k (i + 1) (by omega) (by omega), e]
      exact congrArg some (decide_eq_decide.mpr ⟨fun h => by rw [h], fun h => (List.cons.inj h).2⟩)
    · rw [if_neg e]
      exact congrArg some (decide_eq_false (fun h => e (List.cons.inj h).1)).symm

theorem equalInts_ok (a b : List Int) (hl : a.length ≤ 2000000) (k : Nat) (hk : a.length < k) : laws_equalInts.f k a b = some (decide (a = b)) := by
  unfold laws_equalInts.f
  by_cases h : a.length = b.length
  · rw [if_pos (by omega)]
    exact equalInts_l0 a b h hl a.length k 0 (by omega) hk
  · rw [if_neg (by omega), decide_eq_false (fun e => h (by rw [e]))]

theorem equalInts_self (a : List Int) (hl : a.length ≤ 2000000) (k : Nat) (hk : a.length < k) : laws_equalInts.f k a a = some true := by
  rw [equalInts_ok a a hl k hk, decide_eq_true rfl]

theorem total_l0 (l : List Int) (hl : l.length ≤ 2000) (hb : ∀ x ∈ l, -1000 ≤ x ∧ x ≤ 1000) : ∀ (d k i : Nat) (s : Int), i + d = l.length → d < k → -1000 * i ≤ s → s ≤ 1000 * i → laws_total.l0 k l s (i : Int) = some (s + (l.drop i).sum) := by
  intro d
  induction d with
  | zero =>
    intro k i s hi hk hs hs'
    obtain ⟨k, rfl⟩ : ∃ m, k = m + 1 := ⟨k - 1, by omega⟩
    simp only [laws_total.l0]
    rw [if_neg (by omega), List.drop_eq_nil_of_le (by omega)]
    simp
  | succ d ih =>
    intro k i s hi hk hs hs'
    obtain ⟨k, rfl⟩ : ∃ m, k = m + 1 := ⟨k - 1, by omega⟩
    simp only [laws_total.l0]
    have hx := hb (l[i]'(by omega)) (List.getElem_mem _)
    rw [if_pos (by omega), if_pos (by omega), step_nat i (by omega), rd_nat l i (by omega), List.drop_eq_getElem_cons (by omega : i < l.length), List.sum_cons]
    generalize l[i]'(by omega) = x at hx ⊢
    rw [IntWalk.wrap64_in (s + x) (by omega), ih k (i + 1) _ (by omega) (by omega) (by omega) (by omega), Int.add_assoc]

theorem total_ok (l : List Int) (hl : l.length ≤ 2000) (hb : ∀ x ∈ l, -1000 ≤ x ∧ x ≤ 1000) (k : Nat) (hk : l.length < k) : laws_total.f k l = some l.sum := by
  unfold laws_total.f
  have := total_l0 l hl hb l.length k 0 0 (by omega) hk (by omega) (by omega)
  simpa using this

theorem shLaw_l1 (r : Int) (a out : List Int) (c : Int) (j : Nat) (hj : j < out.length) (hl : out.length ≤ 100) (hle : ∀ i, i < out.length → out.getD i 0 ≤ out.getD j 0) : ∀ (d k i : Nat), i + d = out.length → laws_FnSharesOf.l1 (k + d + 1) r a out c (j : Int) (i : Int) = laws_FnSharesOf.l0 k r a out c ((j + 1 : Nat) : Int) := by
  intro d
  induction d with
  | zero =>
    intro k i hi
    rw [laws_FnSharesOf.l1, if_neg (by omega), step_nat j (by omega)]
  | succ d ih =>
    intro k i hi
    have h := hle i (by omega)
    rw [show k + (d + 1) + 1 = (k + d + 1) + 1 from rfl, laws_FnSharesOf.l1, if_pos (by omega), if_pos (by omega), if_pos (by omega), if_pos (by omega), rd_getD, rd_getD, if_neg (by omega), step_nat i (by omega)]
    exact ih k (i + 1) (by omega)

theorem shLaw_l0 (r : Int) (a out : List Int) (hr : r ≤ 200) (hr0 : 0 ≤ r) (hn : a.length ≤ 16) (ha : ∀ j, 0 ≤ a.getD j 0 ∧ a.getD j 0 ≤ 30) (g : goodSh a r out) : ∀ (d k i : Nat), i + d = a.length → 40 * d + 100 ≤ k → laws_FnSharesOf.l0 k r a out (shortN a out i : Int) (i : Int) = some true := by
  obtain ⟨g1, g2, g3, g4, g5⟩ := g
  have hb : ∀ x ∈ out, -1000 ≤ x ∧ x ≤ 1000 := by
    intro x hx
    obtain ⟨j, hj, rfl⟩ := List.getElem_of_mem hx
    have h1 := g2 j (by omega)
    have h2 := ha j
    rw [List.getD_eq_getElem?_getD, List.getElem?_eq_getElem hj] at h1
    have e : (some out[j]).getD 0 = out[j] := rfl
    rw [e] at h1
    omega
  have hsum : 0 ≤ out.sum := by
    have : ∀ l : List Int, (∀ x ∈ l, 0 ≤ x) → 0 ≤ l.sum := by
      intro l
      induction l with
      | nil => intro _; exact Int.le_refl _
      | cons x t ih => intro h; rw [List.sum_cons]; have := h x (List.mem_cons_self ..); have := ih (fun y hy => h y (List.mem_cons_of_mem _ hy)); omega
    apply this
    intro x hx
    obtain ⟨j, hj, rfl⟩ := List.getElem_of_mem hx
    have h1 := g2 j (by omega)
    rw [List.getD_eq_getElem?_getD, List.getElem?_eq_getElem hj] at h1
    exact h1.1
  intro d
  induction d with
  | zero =>
    intro k i hi hk
    obtain ⟨k, rfl⟩ : ∃ m, k = m + 1 := ⟨k - 1, by omega⟩
    have hin : i = a.length := by omega
    subst hin
    rw [laws_FnSharesOf.l0, if_neg (by omega), total_ok out (by omega) hb k (by omega), Option.bind_some, if_pos g4]
    by_cases h : (shortN a out a.length : Int) = 0
    · rw [if_pos h]
    · rw [if_neg h, Option.bind_some, IntWalk.wrap64_in (r - out.sum) (by omega), decide_eq_true (by omega)]
  | succ d ih =>
    intro k i hi hk
    obtain ⟨k, rfl⟩ : ∃ m, k = (m + out.length + 1) + 1 := ⟨k - out.length - 2, by omega⟩
    have h := g2 i (by omega)
    have hstep : shortN a out (i + 1) = shortN a out i + (if out.getD i 0 < a.getD i 0 then 1 else 0) := by
      unfold shortN
      rw [List.range_succ, List.filter_append, List.length_append]
      by_cases hc : out.getD i 0 < a.getD i 0
      · rw [if_pos hc, List.filter_cons_of_pos (by simpa using hc)]; rfl
      · rw [if_neg hc, List.filter_cons_of_neg (by simpa using hc)]; rfl
    have hsl : shortN a out i ≤ i := by
      unfold shortN
      have := List.length_filter_le (fun j => decide (out.getD j 0 < a.getD j 0)) (List.range i)
      rw [List.length_range] at this
      exact this
    rw [laws_FnSharesOf.l0, if_pos (by omega), if_pos (by omega), if_pos (by omega), rd_getD, rd_getD, if_neg (by omega)]
    by_cases hc : out.getD i 0 < a.getD i 0
    · rw [if_pos hc, step_nat _ (by omega)]
      have e := shLaw_l1 r a out ((shortN a out i + 1 : Nat) : Int) i (by omega) (by omega) (fun j hj => g3 i (by omega) hc j (by omega)) out.length k 0 (by omega)
      rw [show ((0 : Nat) : Int) = 0 from rfl] at e
      rw [e]
      rw [if_pos hc] at hstep
      rw [← hstep]
      exact ih k (i + 1) (by omega) (by omega)
    · rw [if_neg hc, step_nat i (by omega)]
      have hstep' : shortN a out (i + 1) = shortN a out i := by rw [hstep, if_neg hc]; rfl
      rw [← hstep']
      exact ih _ (i + 1) (by omega) (by omega)

theorem FnSharesOf : laws_FnSharesOf.Pure := by
  intro l0 _ _ hw
  suffices H : ∀ k, 8000 ≤ k → laws_FnSharesOf.f (k + 1) l0 = some true from ⟨_, H 8000 (Nat.le_refl _)⟩
  intro k hk
  unfold laws_FnSharesOf.f
  by_cases hc : (l0.length : Int) > 1048576
  · rw [if_pos hc]
  · obtain ⟨b, hr, hb, hn⟩ := reader_ok l0 hw
    obtain ⟨room, hv, _⟩ := one_ok b hb hn k 0 [20, 50, 10, 100, 0, 200, 201, -1] (by omega) (by omega) (by simp)
    obtain ⟨a, p', ho, hal, _⟩ := someLoads_ok b hb hn (k + 1) (by omega) (0 + 1) (by omega) (by omega)
    have hd : spec_DrawSharesOf.f (k + 1) l0 = some (room, a) := by
      unfold spec_DrawSharesOf.f
      simp only [hr, hv, ho, Option.bind_some]
    have hlen : (sharesOf room a).length ≤ 16 := by
      by_cases h : 0 ≤ room ∧ room ≤ 200 ∧ okL a = true ∧ a.length ≤ 16
      · have := (sharesOf_good room a h).1
        omega
      · unfold sharesOf
        rw [if_neg h]
        simp
    have hj0 : ∀ b0, b0 = true → laws_FnSharesOf.j0 (k + 1) room a (sharesOf room a) b0 = some true := by
      intro b0 hb0
      subst hb0
      rw [laws_FnSharesOf.j0, if_pos rfl, (sharesOf_ok room a (by omega) k (by omega)).2, Option.bind_some, equalInts_self _ (by omega) k (by omega), Option.bind_some]
    rw [if_neg hc, hd, Option.bind_some]
    show ((impl_SharesOf.f (k + 1) room a).bind fun t226 => _) = some true
    rw [(sharesOf_ok room a (by omega) (k + 1) (by omega)).1, Option.bind_some]
    show ((spec_SharesOf.f (k + 1) room a).bind fun t229 => _) = some true
    rw [(sharesOf_ok room a (by omega) (k + 1) (by omega)).2, Option.bind_some, equalInts_self _ (by omega) (k + 1) (by omega), Option.bind_some, if_pos rfl]
    by_cases h0 : (sharesOf room a).length = 0
    · rw [show ((((sharesOf room a).length : Int) == 0) : Bool) = true from beq_iff_eq.mpr (by omega)]
      exact hj0 true rfl
    · rw [show ((((sharesOf room a).length : Int) == 0) : Bool) = false from beq_eq_false_iff_ne.mpr (by omega), laws_FnSharesOf.j0, if_neg Bool.false_ne_true]
      have h : 0 ≤ room ∧ room ≤ 200 ∧ okL a = true ∧ a.length ≤ 16 := by
        apply Decidable.byContradiction
        intro h
        apply h0
        unfold sharesOf
        rw [if_neg h]
        rfl
      have := shLaw_l0 room a (sharesOf room a) h.2.1 h.1 h.2.2.2 (okL_getD a h.2.2.1) (sharesOf_good room a h) a.length k 0 (by omega) (by omega)
      exact this

end Go.Proofs.Ytdppkdcfocaemaa.Pure
