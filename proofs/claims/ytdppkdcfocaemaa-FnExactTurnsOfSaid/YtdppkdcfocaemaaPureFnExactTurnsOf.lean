/- The program's TurnsOf returns what the reference's returns, in memory of its own, and leaves its arguments as they were: FnExactTurnsOf returns true for every int and list of lists of ints. Conditions: none. -/
import Derived.Test.YtdppkdcfocaemaaHFnExactTurnsOfx5
namespace Go.Proofs.Ytdppkdcfocaemaa.Pure
open Go.RowKit Go.Proofs.Ytdppkdcfocaemaa.HFnExactTurnsOf Go.Proofs.YtdppkdcfocaemaaW.PrintWords Go.Proofs.YtdppkdcfocaemaaW.PrintLast
open Go
set_option linter.unusedVariables false
set_option linter.unusedSimpArgs false

theorem rd_nat (l : List Int) (i : Nat) (h : i < l.length) : rd l (i : Int) = l[i] := by
  unfold rd
  rw [Int.toNat_natCast, List.getD_eq_getElem?_getD, List.getElem?_eq_getElem h]
  rfl

theorem step_nat (i : Nat) (h : i < 4611686018427387904) : wrap64 ((i : Int) + 1) = ((i + 1 : Nat) : Int) := by
  rw [IntWalk.wrap64_in ((i : Int) + 1) (by omega)]
  rfl

theorem rd_getD (a : List Int) (j : Nat) : rd a (j : Int) = a.getD j 0 := by
  unfold rd
  rw [Int.toNat_natCast]
theorem rdL_getD (fl : List (List Int)) (j : Nat) : rd_L1 fl (j : Int) = fl.getD j [] := by
  unfold rd_L1
  rw [Int.toNat_natCast]
theorem getD_set (o : List Int) (i j : Nat) (v : Int) (h : i < o.length) : (o.set i v).getD j 0 = if j = i then v else o.getD j 0 := by
  rw [List.getD_eq_getElem?_getD, List.getD_eq_getElem?_getD]
  by_cases e : j = i
  · subst e
    rw [if_pos rfl, List.getElem?_set_self h]
    rfl
  · rw [if_neg e, List.getElem?_set_ne (fun h => e h.symm)]
def sumF (g : Nat → Int) : Nat → Int
  | 0 => 0
  | n + 1 => sumF g n + g n
theorem sumF_congr (g g' : Nat → Int) : ∀ n, (∀ j, j < n → g' j = g j) → sumF g' n = sumF g n
  | 0, _ => rfl
  | n + 1, h => by rw [sumF, sumF, sumF_congr g g' n (fun j hj => h j (by omega)), h n (by omega)]
theorem sumF_upd (g g' : Nat → Int) (i : Nat) : ∀ n, i < n → (∀ j, j < n → j ≠ i → g' j = g j) → sumF g' n = sumF g n - g i + g' i
  | 0, hi, _ => by omega
  | n + 1, hi, h => by
    rw [sumF, sumF]
    by_cases e : i = n
    · subst e
      rw [sumF_congr g g' i (fun j hj => h j (by omega) (by omega))]
      omega
    · rw [sumF_upd g g' i n (by omega) (fun j hj hne => h j (by omega) hne), h n (by omega) (fun h => e h.symm)]
      omega
theorem sumF_nonneg (g : Nat → Int) : ∀ n, (∀ j, j < n → 0 ≤ g j) → 0 ≤ sumF g n
  | 0, _ => Int.le_refl _
  | n + 1, h => by
    have := sumF_nonneg g n (fun j hj => h j (by omega))
    have := h n (by omega)
    rw [sumF]; omega
theorem sumF_le (g : Nat → Int) : ∀ n, (∀ j, j < n → g j ≤ 6) → sumF g n ≤ 6 * (n : Int)
  | 0, _ => Int.le_refl _
  | n + 1, h => by
    have := sumF_le g n (fun j hj => h j (by omega))
    have := h n (by omega)
    rw [sumF]; omega
theorem sumF_ex (g : Nat → Int) : ∀ n, 0 < sumF g n → ∃ j, j < n ∧ 0 < g j
  | 0, h => absurd h (Int.lt_irrefl _)
  | n + 1, h => by
    rw [sumF] at h
    by_cases e : 0 < g n
    · exact ⟨n, by omega, e⟩
    · obtain ⟨j, hj, hg⟩ := sumF_ex g n (by omega)
      exact ⟨j, by omega, hg⟩
theorem sumF_zero (g : Nat → Int) (n : Nat) (h : ∀ j, j < n → 0 ≤ g j) (hs : sumF g n = 0) : ∀ j, j < n → g j = 0 := by
  induction n with
  | zero => intro j hj; omega
  | succ n ih =>
    have h1 := sumF_nonneg g n (fun j hj => h j (by omega))
    have h2 := h n (by omega)
    rw [sumF] at hs
    intro j hj
    by_cases e : j = n
    · subst e; omega
    · exact ih (fun j hj => h j (by omega)) (by omega) j (by omega)

def lenF (fl : List (List Int)) (j : Nat) : Int := ((fl.getD j []).length : Int)
def cntF (out : List Int) (j : Nat) : Int := ((out.filter fun x => decide (x = (j : Int))).length : Int)
def okFlows (fl : List (List Int)) : Prop := fl.length ≤ 4 ∧ ∀ j, lenF fl j ≤ 6 ∧ ∀ m, 0 ≤ (fl.getD j []).getD m 0 ∧ (fl.getD j []).getD m 0 ≤ 30
/-- What holds at every step: the lengths, what is left, what left, and the credits. -/
def core (fl : List (List Int)) (out pos cr : List Int) (left : Int) : Prop :=
  pos.length = fl.length ∧ cr.length = fl.length ∧ left = sumF (fun j => lenF fl j - pos.getD j 0) fl.length ∧ (out.length : Int) = sumF (fun j => pos.getD j 0) fl.length ∧
  (∀ j, j < fl.length → cntF out j = pos.getD j 0) ∧ (∀ j, j < fl.length → 0 ≤ pos.getD j 0 ∧ pos.getD j 0 ≤ lenF fl j ∧ 0 ≤ cr.getD j 0 ∧ cr.getD j 0 ≤ 60)
def reg (fl : List (List Int)) (pos cr : List Int) (j : Nat) : Prop := (pos.getD j 0 = lenF fl j ∧ cr.getD j 0 = 0) ∨ (pos.getD j 0 < lenF fl j ∧ cr.getD j 0 ≤ 30)
def pot (fl : List (List Int)) (pos cr : List Int) (j : Nat) : Int := 31 * (lenF fl j - pos.getD j 0) - cr.getD j 0

theorem core_bounds (fl : List (List Int)) (out pos cr : List Int) (left : Int) (hf : okFlows fl) (h : core fl out pos cr left) : 0 ≤ left ∧ left ≤ 24 ∧ out.length ≤ 24 := by
  obtain ⟨h1, h2, h3, h4, h5, h6⟩ := h
  have a1 := sumF_nonneg (fun j => lenF fl j - pos.getD j 0) fl.length (fun j hj => by have := h6 j hj; show 0 ≤ lenF fl j - pos.getD j 0; omega)
  have a2 := sumF_le (fun j => lenF fl j - pos.getD j 0) fl.length (fun j hj => by have := h6 j hj; have := (hf.2 j).1; show lenF fl j - pos.getD j 0 ≤ 6; omega)
  have a3 := sumF_le (fun j => pos.getD j 0) fl.length (fun j hj => by have := h6 j hj; have := (hf.2 j).1; show pos.getD j 0 ≤ 6; omega)
  have := hf.1
  omega

theorem core_cr (fl : List (List Int)) (out pos cr : List Int) (left : Int) (h : core fl out pos cr left) (i : Nat) (hi : i < fl.length) (v : Int) (h0 : 0 ≤ v) (h1 : v ≤ 60) : core fl out pos (cr.set i v) left := by
  obtain ⟨g1, g2, g3, g4, g5, g6⟩ := h
  refine ⟨g1, by rw [List.length_set]; exact g2, g3, g4, g5, fun j hj => ?_⟩
  obtain ⟨a1, a2, a3, a4⟩ := g6 j hj
  rw [getD_set cr i j v (by omega)]
  by_cases e : j = i
  · rw [if_pos e]; exact ⟨a1, a2, h0, h1⟩
  · rw [if_neg e]; exact ⟨a1, a2, a3, a4⟩

theorem core_out (fl : List (List Int)) (out pos cr : List Int) (left : Int) (h : core fl out pos cr left) (i : Nat) (hi : i < fl.length) (hlt : pos.getD i 0 < lenF fl i) (v : Int) (h0 : 0 ≤ v) (h1 : v ≤ 60) :
    core fl (out ++ [(i : Int)]) (pos.set i (pos.getD i 0 + 1)) (cr.set i v) (left - 1) := by
  obtain ⟨g1, g2, g3, g4, g5, g6⟩ := h
  have hp : ∀ j, (pos.set i (pos.getD i 0 + 1)).getD j 0 = if j = i then pos.getD i 0 + 1 else pos.getD j 0 := fun j => getD_set pos i j _ (by omega)
  have hpi := hp i
  rw [if_pos rfl] at hpi
  have hpo : ∀ j, j ≠ i → (pos.set i (pos.getD i 0 + 1)).getD j 0 = pos.getD j 0 := fun j hj => by rw [hp j, if_neg hj]
  refine ⟨by rw [List.length_set]; exact g1, by rw [List.length_set]; exact g2, ?_, ?_, fun j hj => ?_, fun j hj => ?_⟩
  · rw [sumF_upd (fun j => lenF fl j - pos.getD j 0) (fun j => lenF fl j - (pos.set i (pos.getD i 0 + 1)).getD j 0) i fl.length hi (fun j _ hne => by
      show lenF fl j - (pos.set i (pos.getD i 0 + 1)).getD j 0 = lenF fl j - pos.getD j 0
      rw [hpo j hne]), ← g3]
    show left - 1 = left - (lenF fl i - pos.getD i 0) + (lenF fl i - (pos.set i (pos.getD i 0 + 1)).getD i 0)
    rw [hpi]; omega
  · rw [sumF_upd (fun j => pos.getD j 0) (fun j => (pos.set i (pos.getD i 0 + 1)).getD j 0) i fl.length hi (fun j _ hne => hpo j hne), ← g4, List.length_append, List.length_singleton]
    show ((out.length + 1 : Nat) : Int) = (out.length : Int) - pos.getD i 0 + (pos.set i (pos.getD i 0 + 1)).getD i 0
    rw [hpi]; omega
  · unfold cntF
    rw [List.filter_append, List.length_append]
    have := g5 j hj
    unfold cntF at this
    by_cases e : j = i
    · subst e
      rw [hpi, List.filter_cons_of_pos (by simp), List.filter_nil, List.length_singleton]
      omega
    · rw [hpo j e, List.filter_cons_of_neg (by simp; omega), List.filter_nil, List.length_nil]
      omega
  · obtain ⟨a1, a2, a3, a4⟩ := g6 j hj
    rw [getD_set cr i j v (by omega)]
    by_cases e : j = i
    · subst e
      rw [hpi, if_pos rfl]
      omega
    · rw [hpo j e, if_neg e]
      exact ⟨a1, a2, a3, a4⟩

theorem serve_l3 (q : Int) (fl : List (List Int)) (hf : okFlows fl) (i : Nat) (hi : i < fl.length) : ∀ (d : Nat) (out pos cr : List Int) (left : Int), pos.getD i 0 + (d : Int) = lenF fl i → core fl out pos cr left → (∀ j, j < fl.length → j ≠ i → reg fl pos cr j) →
    ∃ (m : Nat) (out' pos' cr' : List Int) (left' : Int), (∀ k, spec_serve.l3 (k + m) q fl out pos cr left (i : Int) = spec_serve.l2 k q fl out' pos' cr' left' ((i + 1 : Nat) : Int)) ∧ core fl out' pos' cr' left' ∧ (∀ j, j < fl.length → reg fl pos' cr' j) ∧
      pot fl pos' cr' i ≤ max (31 * (d : Int) - cr.getD i 0) 0 ∧ (∀ j, j ≠ i → pos'.getD j 0 = pos.getD j 0 ∧ cr'.getD j 0 = cr.getD j 0) := by
  have hlen : ((rd_L1 fl (i : Int)).length : Int) = lenF fl i := by rw [rdL_getD]; rfl
  have h6 := (hf.2 i).1
  have h4 := hf.1
  intro d
  induction d with
  | zero =>
    intro out pos cr left hd hc hr
    obtain ⟨c1, c2, c3, c4, c5, c6⟩ := id hc
    have hci := c6 i hi
    refine ⟨1, out, pos, cr.set i 0, left, fun k => ?_, core_cr fl out pos cr left hc i hi 0 (by omega) (by omega), fun j hj => ?_, ?_, fun j hj => ⟨rfl, by rw [getD_set cr i j 0 (by omega), if_neg hj]⟩⟩
    · rw [spec_serve.l3, if_pos (by omega), if_pos (by omega), if_pos (by omega), hlen, rd_getD, if_neg (by omega), if_pos (by omega), if_pos (by omega), step_nat i (by omega), Int.toNat_natCast]
    · by_cases e : j = i
      · subst e
        exact .inl ⟨by omega, by rw [getD_set cr j j 0 (by omega), if_pos rfl]⟩
      · have := hr j hj e
        unfold reg at this ⊢
        rw [getD_set cr i j 0 (by omega), if_neg e]
        exact this
    · unfold pot
      rw [getD_set cr i i 0 (by omega), if_pos rfl]
      omega
  | succ d ih =>
    intro out pos cr left hd hc hr
    obtain ⟨c1, c2, c3, c4, c5, c6⟩ := id hc
    have hci := c6 i hi
    have hb := core_bounds fl out pos cr left hf hc
    have hlt : pos.getD i 0 < lenF fl i := by omega
    have hs := (hf.2 i).2 (pos.getD i 0).toNat
    have hsz : rd (rd_L1 fl (i : Int)) (pos.getD i 0) = (fl.getD i []).getD (pos.getD i 0).toNat 0 := by rw [rdL_getD]; rfl
    by_cases hle : (fl.getD i []).getD (pos.getD i 0).toNat 0 ≤ cr.getD i 0
    · have hw1 : wrap64 (pos.getD i 0 + 1) = pos.getD i 0 + 1 := IntWalk.wrap64_in _ (by omega)
      have hw2 : wrap64 (cr.getD i 0 - (fl.getD i []).getD (pos.getD i 0).toNat 0) = cr.getD i 0 - (fl.getD i []).getD (pos.getD i 0).toNat 0 := IntWalk.wrap64_in _ (by omega)
      have hw3 : wrap64 (left - 1) = left - 1 := IntWalk.wrap64_in _ (by omega)
      have hc' := core_out fl out pos cr left hc i hi hlt (cr.getD i 0 - (fl.getD i []).getD (pos.getD i 0).toNat 0) (by omega) (by omega)
      have ep : (pos.set i (pos.getD i 0 + 1)).getD i 0 = pos.getD i 0 + 1 := by rw [getD_set pos i i _ (by omega), if_pos rfl]
      have ec : (cr.set i (cr.getD i 0 - (fl.getD i []).getD (pos.getD i 0).toNat 0)).getD i 0 = cr.getD i 0 - (fl.getD i []).getD (pos.getD i 0).toNat 0 := by rw [getD_set cr i i _ (by omega), if_pos rfl]
      have eo : ∀ j, j ≠ i → (pos.set i (pos.getD i 0 + 1)).getD j 0 = pos.getD j 0 ∧ (cr.set i (cr.getD i 0 - (fl.getD i []).getD (pos.getD i 0).toNat 0)).getD j 0 = cr.getD j 0 := fun j hj => ⟨by rw [getD_set pos i j _ (by omega), if_neg hj], by rw [getD_set cr i j _ (by omega), if_neg hj]⟩
      obtain ⟨m, out', pos', cr', left', e1, e2, e3, e4, e5⟩ := ih _ _ _ _ (by rw [ep]; omega) hc' (fun j hj hne => by
        have := hr j hj hne
        unfold reg at this ⊢
        rw [(eo j hne).1, (eo j hne).2]
        exact this)
      refine ⟨m + 1, out', pos', cr', left', fun k => ?_, e2, e3, by rw [ec] at e4; omega, fun j hj => by rw [(e5 j hj).1, (e5 j hj).2]; exact eo j hj⟩
      rw [← e1 k, show k + (m + 1) = (k + m) + 1 from rfl, spec_serve.l3, if_pos (by omega), if_pos (by omega), if_pos (by omega), hlen, rd_getD, rd_getD, if_pos hlt, if_pos (by omega), if_pos (by omega), hsz, if_pos hle, if_pos (by omega), hw1, hw2, hw3, Int.toNat_natCast]
    · refine ⟨1, out, pos, cr, left, fun k => ?_, hc, fun j hj => ?_, ?_, fun j hj => ⟨rfl, rfl⟩⟩
      · rw [spec_serve.l3, if_pos (by omega), if_pos (by omega), if_pos (by omega), hlen, rd_getD, rd_getD, if_pos hlt, if_pos (by omega), if_pos (by omega), hsz, if_neg hle, if_neg (by omega), step_nat i (by omega)]
      · by_cases e : j = i
        · subst e
          exact .inr ⟨hlt, by omega⟩
        · exact hr j hj e
      · unfold pot
        omega

def potS (fl : List (List Int)) (pos cr : List Int) : Int := sumF (pot fl pos cr) fl.length
theorem pot_nonneg (fl : List (List Int)) (pos cr : List Int) (j : Nat) (h : reg fl pos cr j) : 0 ≤ pot fl pos cr j ∧ (pos.getD j 0 < lenF fl j → 1 ≤ pot fl pos cr j) := by
  unfold pot
  rcases h with ⟨h1, h2⟩ | ⟨h1, h2⟩ <;> omega

theorem serve_l2 (q : Int) (hq : 1 ≤ q) (hq' : q ≤ 30) (fl : List (List Int)) (hf : okFlows fl) : ∀ (d i : Nat) (out pos cr : List Int) (left : Int), i + d = fl.length → core fl out pos cr left → (∀ j, j < fl.length → reg fl pos cr j) →
    ∃ (m : Nat) (out' pos' cr' : List Int) (left' : Int), (∀ k, spec_serve.l2 (k + m) q fl out pos cr left (i : Int) = spec_serve.l1 k q fl out' pos' cr' left') ∧ core fl out' pos' cr' left' ∧ (∀ j, j < fl.length → reg fl pos' cr' j) ∧
      potS fl pos' cr' ≤ potS fl pos cr ∧ ((∃ j, i ≤ j ∧ j < fl.length ∧ pos.getD j 0 < lenF fl j) → potS fl pos' cr' < potS fl pos cr) := by
  have h4 := hf.1
  intro d
  induction d with
  | zero =>
    intro i out pos cr left hi hc hr
    refine ⟨1, out, pos, cr, left, fun k => ?_, hc, hr, Int.le_refl _, fun ⟨j, h1, h2, _⟩ => by omega⟩
    rw [spec_serve.l2, if_neg (by omega)]
  | succ d ih =>
    intro i out pos cr left hi hc hr
    obtain ⟨c1, c2, c3, c4, c5, c6⟩ := id hc
    have hil : i < fl.length := by omega
    have hci := c6 i hil
    have hlen : ((rd_L1 fl (i : Int)).length : Int) = lenF fl i := by rw [rdL_getD]; rfl
    have hri := hr i hil
    by_cases he : pos.getD i 0 = lenF fl i
    · obtain ⟨m, out', pos', cr', left', e1, e2, e3, e4, e5⟩ := ih (i + 1) out pos cr left (by omega) hc hr
      refine ⟨m + 1, out', pos', cr', left', fun k => ?_, e2, e3, e4, fun ⟨j, h1, h2, h3⟩ => e5 ⟨j, ?_, h2, h3⟩⟩
      · rw [← e1 k, show k + (m + 1) = (k + m) + 1 from rfl, spec_serve.l2, if_pos (by omega), if_pos (by omega), if_pos (by omega), hlen, rd_getD, if_pos he, step_nat i (by omega)]
      · by_cases e : j = i
        · rw [e] at h3; omega
        · omega
    · have hcr : cr.getD i 0 ≤ 30 := by rcases hri with h | h <;> omega
      have hw : wrap64 (cr.getD i 0 + q) = cr.getD i 0 + q := IntWalk.wrap64_in _ (by omega)
      have hc' := core_cr fl out pos cr left hc i hil (cr.getD i 0 + q) (by omega) (by omega)
      obtain ⟨dd, hdd⟩ := Int.eq_ofNat_of_zero_le (show 0 ≤ lenF fl i - pos.getD i 0 by omega)
      obtain ⟨m1, out1, pos1, cr1, left1, a1, a2, a3, a4, a5⟩ := serve_l3 q fl hf i hil dd out pos (cr.set i (cr.getD i 0 + q)) left (by omega) hc' (fun j hj hne => by
        have := hr j hj
        unfold reg at this ⊢
        rw [getD_set cr i j _ (by omega), if_neg hne]
        exact this)
      rw [getD_set cr i i _ (by omega), if_pos rfl] at a4
      obtain ⟨m2, out', pos', cr', left', e1, e2, e3, e4, e5⟩ := ih (i + 1) out1 pos1 cr1 left1 (by omega) a2 a3
      have hpot : potS fl pos1 cr1 = potS fl pos cr - pot fl pos cr i + pot fl pos1 cr1 i := by
        unfold potS
        exact sumF_upd (pot fl pos cr) (pot fl pos1 cr1) i fl.length hil (fun j _ hne => by
          obtain ⟨b1, b2⟩ := a5 j hne
          unfold pot
          rw [b1, b2, getD_set cr i j _ (by omega), if_neg hne])
      have hp1 : 1 ≤ pot fl pos cr i := (pot_nonneg fl pos cr i hri).2 (by omega)
      have hp2 : pot fl pos cr i = 31 * (dd : Int) - cr.getD i 0 := by unfold pot; omega
      refine ⟨m2 + m1 + 1, out', pos', cr', left', fun k => ?_, e2, e3, by omega, fun _ => by omega⟩
      rw [← e1 k, ← a1 (k + m2), show k + (m2 + m1 + 1) = (k + m2 + m1) + 1 by omega, spec_serve.l2, if_pos (by omega), if_pos (by omega), if_pos (by omega), hlen, rd_getD, rd_getD, if_neg he, if_pos (by omega), hw, Int.toNat_natCast]

theorem serve_l1 (q : Int) (hq : 1 ≤ q) (hq' : q ≤ 30) (fl : List (List Int)) (hf : okFlows fl) : ∀ (n : Nat) (out pos cr : List Int) (left : Int), potS fl pos cr ≤ (n : Int) → core fl out pos cr left → (∀ j, j < fl.length → reg fl pos cr j) →
    ∃ (m : Nat) (r : List Int), (∀ k, spec_serve.l1 (k + m) q fl out pos cr left = some r) ∧ r.length ≤ 24 ∧ (∀ j, j < fl.length → cntF r j = lenF fl j) ∧ (r.length : Int) = sumF (lenF fl) fl.length := by
  intro n
  induction n with
  | zero =>
    intro out pos cr left hn hc hr
    have hb := core_bounds fl out pos cr left hf hc
    obtain ⟨c1, c2, c3, c4, c5, c6⟩ := id hc
    have hz : left ≤ 0 := by
      apply Decidable.byContradiction
      intro h
      rw [c3] at h
      obtain ⟨j, hj, hg⟩ := sumF_ex _ _ (Int.not_le.1 h)
      have hg' : 0 < lenF fl j - pos.getD j 0 := hg
      have h1 := (pot_nonneg fl pos cr j (hr j hj)).2 (by omega)
      have h2 := sumF_upd (pot fl pos cr) (fun x => if x = j then 0 else pot fl pos cr x) j fl.length hj (fun x _ hne => if_neg hne)
      have h3 := sumF_nonneg (fun x => if x = j then 0 else pot fl pos cr x) fl.length (fun x hx => by
        show 0 ≤ (if x = j then 0 else pot fl pos cr x)
        by_cases e : x = j
        · rw [if_pos e]; exact Int.le_refl _
        · rw [if_neg e]; exact (pot_nonneg fl pos cr x (hr x hx)).1)
      unfold potS at hn
      rw [h2] at h3
      have h4 : (if j = j then (0 : Int) else pot fl pos cr j) = 0 := if_pos rfl
      have h5 : 0 ≤ sumF (pot fl pos cr) fl.length - pot fl pos cr j + (if j = j then (0 : Int) else pot fl pos cr j) := h3
      rw [h4] at h5
      omega
    have hall := sumF_zero (fun j => lenF fl j - pos.getD j 0) fl.length (fun j hj => by have := c6 j hj; show 0 ≤ lenF fl j - pos.getD j 0; omega) (by omega)
    have hall' : ∀ j, j < fl.length → pos.getD j 0 = lenF fl j := fun j hj => by have : lenF fl j - pos.getD j 0 = 0 := hall j hj; omega
    refine ⟨1, out, fun k => by rw [spec_serve.l1, if_neg (by omega)], hb.2.2, fun j hj => by rw [c5 j hj]; exact hall' j hj, by rw [c4]; exact sumF_congr _ _ _ (fun j hj => hall' j hj)⟩
  | succ n ih =>
    intro out pos cr left hn hc hr
    have hb := core_bounds fl out pos cr left hf hc
    obtain ⟨c1, c2, c3, c4, c5, c6⟩ := id hc
    by_cases hz : left ≤ 0
    · have hall := sumF_zero (fun j => lenF fl j - pos.getD j 0) fl.length (fun j hj => by have := c6 j hj; show 0 ≤ lenF fl j - pos.getD j 0; omega) (by omega)
      have hall' : ∀ j, j < fl.length → pos.getD j 0 = lenF fl j := fun j hj => by have : lenF fl j - pos.getD j 0 = 0 := hall j hj; omega
      exact ⟨1, out, fun k => by rw [spec_serve.l1, if_neg (by omega)], hb.2.2, fun j hj => by rw [c5 j hj]; exact hall' j hj, by rw [c4]; exact sumF_congr _ _ _ (fun j hj => hall' j hj)⟩
    · obtain ⟨m1, out1, pos1, cr1, left1, a1, a2, a3, a4, a5⟩ := serve_l2 q hq hq' fl hf fl.length 0 out pos cr left (by omega) hc hr
      have hlt := a5 (by
        rw [c3] at hz
        obtain ⟨j, hj, hg⟩ := sumF_ex _ _ (Int.not_le.1 hz)
        have hg' : 0 < lenF fl j - pos.getD j 0 := hg
        exact ⟨j, by omega, hj, by omega⟩)
      obtain ⟨m2, r, b1, b2⟩ := ih out1 pos1 cr1 left1 (by omega) a2 a3
      refine ⟨m2 + m1 + 1, r, fun k => ?_, b2⟩
      have e := a1 (k + m2)
      rw [show ((0 : Nat) : Int) = 0 from rfl] at e
      rw [show k + (m2 + m1 + 1) = (k + m2 + m1) + 1 by omega, spec_serve.l1, if_pos (by omega), e, b1 k]

theorem getD_rep (n j : Nat) : (List.replicate n (0 : Int)).getD j 0 = 0 := by
  rw [List.getD_eq_getElem?_getD, List.getElem?_replicate]
  by_cases hj : j < n
  · rw [if_pos hj]; rfl
  · rw [if_neg hj]; rfl

theorem sumF_rep (n m : Nat) : sumF (fun j => (List.replicate m (0 : Int)).getD j 0) n = 0 := by
  induction n with
  | zero => rfl
  | succ n ih => rw [sumF, ih, getD_rep]; rfl

theorem core_start (fl : List (List Int)) : core fl [] (List.replicate fl.length 0) (List.replicate fl.length 0) (sumF (lenF fl) fl.length) := by
  refine ⟨by simp, by simp, ?_, ?_, fun j hj => ?_, fun j hj => ?_⟩
  · exact sumF_congr _ _ _ (fun j _ => by show lenF fl j = lenF fl j - (List.replicate fl.length (0 : Int)).getD j 0; rw [getD_rep]; omega)
  · rw [sumF_rep]; rfl
  · rw [getD_rep]; rfl
  · rw [getD_rep]
    have : 0 ≤ lenF fl j := by unfold lenF; omega
    omega

theorem serve_start (q : Int) (hq : 1 ≤ q) (hq' : q ≤ 30) (fl : List (List Int)) (hf : okFlows fl) : ∃ (m : Nat) (r : List Int), (∀ k, spec_serve.l1 (k + m) q fl [] (List.replicate fl.length 0) (List.replicate fl.length 0) (sumF (lenF fl) fl.length) = some r) ∧ r.length ≤ 24 ∧ (∀ j, j < fl.length → cntF r j = lenF fl j) ∧ (r.length : Int) = sumF (lenF fl) fl.length :=
  serve_l1 q hq hq' fl hf (potS fl (List.replicate fl.length 0) (List.replicate fl.length 0)).toNat _ _ _ _ (Int.self_le_toNat _) (core_start fl) (fun j hj => by
    unfold reg
    rw [getD_rep]
    have : 0 ≤ lenF fl j := by unfold lenF; omega
    by_cases e : lenF fl j = 0
    · exact .inl ⟨e.symm, rfl⟩
    · exact .inr ⟨by omega, by omega⟩)

/-- Step for step the two are the same. -/
theorem same_steps (q : Int) (fl : List (List Int)) : ∀ k, (∀ left out cr pos, impl_TurnsOf.l1 k q fl left out cr pos = spec_serve.l1 k q fl out pos cr left) ∧
    (∀ left out cr pos (i : Int), impl_TurnsOf.l2 k q fl left out cr pos fl (fl.length : Int) i = spec_serve.l2 k q fl out pos cr left i) ∧
    (∀ left out cr pos (i : Int), i < (fl.length : Int) → impl_TurnsOf.l3 k q fl left out cr pos i (rd_L1 fl i) fl (fl.length : Int) i = spec_serve.l3 k q fl out pos cr left i) := by
  intro k
  induction k with
  | zero =>
    refine ⟨fun _ _ _ _ => ?_, fun _ _ _ _ _ => ?_, fun _ _ _ _ _ _ => ?_⟩
    · rw [impl_TurnsOf.l1, spec_serve.l1]
    · rw [impl_TurnsOf.l2, spec_serve.l2]
    · rw [impl_TurnsOf.l3, spec_serve.l3]
  | succ k ih =>
    obtain ⟨i1, i2, i3⟩ := ih
    refine ⟨fun left out cr pos => ?_, fun left out cr pos i => ?_, fun left out cr pos i hi => ?_⟩
    · rw [impl_TurnsOf.l1, spec_serve.l1, i2]
    · rw [impl_TurnsOf.l2, spec_serve.l2]
      by_cases h1 : i < (fl.length : Int)
      · rw [if_pos h1, if_pos h1, if_pos h1, i2, i3 _ _ _ _ _ h1]
      · rw [if_neg h1, if_neg h1, i1]
    · rw [impl_TurnsOf.l3, spec_serve.l3, if_pos hi, i2, i2, i3 _ _ _ _ _ hi]

/-- Loads. -/
def okL (l : List Int) : Bool := l.all fun x => decide (0 ≤ x ∧ x ≤ 30)

theorem okL_iff (l : List Int) : okL l = true ↔ ∀ x ∈ l, 0 ≤ x ∧ x ≤ 30 := by simp [okL]

theorem within_val (x a b : Int) : impl_within.f x a b = some (decide (a ≤ x ∧ x ≤ b)) := by
  unfold impl_within.f
  by_cases h : a ≤ x
  · rw [if_pos h]; simp [h]
  · rw [if_neg h]; simp [h]

theorem inRange_val (x a b : Int) : spec_inRange.f x a b = some (decide (a ≤ x ∧ x ≤ b)) := by
  unfold spec_inRange.f
  by_cases h : a ≤ x
  · rw [if_pos h]; simp [h]
  · rw [if_neg h]; simp [h]

theorem validLoads_l0 (l : List Int) (hl : l.length ≤ 2000000) : ∀ (d k i : Nat), i + d = l.length → d < k → spec_validLoads.l0 k l (i : Int) = some (okL (l.drop i) && decide (l.length ≤ 16)) := by
  intro d
  induction d with
  | zero =>
    intro k i hi hk
    obtain ⟨k, rfl⟩ : ∃ m, k = m + 1 := ⟨k - 1, by omega⟩
    simp only [spec_validLoads.l0]
    rw [if_neg (by omega), List.drop_eq_nil_of_le (by omega)]
    have e : decide ((l.length : Int) ≤ 16) = decide (l.length ≤ 16) := decide_eq_decide.mpr (by omega)
    rw [e]
    simp [okL]
  | succ d ih =>
    intro k i hi hk
    obtain ⟨k, rfl⟩ : ∃ m, k = m + 1 := ⟨k - 1, by omega⟩
    simp only [spec_validLoads.l0]
    rw [if_pos (by omega), if_pos (by omega), step_nat i (by omega), rd_nat l i (by omega), inRange_val]
    rw [List.drop_eq_getElem_cons (by omega : i < l.length)]
    simp only [Option.bind_some]
    by_cases e : 0 ≤ l[i]'(by omega) ∧ l[i]'(by omega) ≤ 30
    · rw [if_pos (decide_eq_true e), ih k (i + 1) (by omega) (by omega)]
      have h : okL (l[i]'(by omega) :: l.drop (i + 1)) = okL (l.drop (i + 1)) := by
        unfold okL
        rw [List.all_cons, decide_eq_true e, Bool.true_and]
      rw [h]
    · rw [if_neg (by simpa using e)]
      have h : okL (l[i]'(by omega) :: l.drop (i + 1)) = false := by
        unfold okL
        rw [List.all_cons, decide_eq_false e, Bool.false_and]
      rw [h, Bool.false_and]

theorem validLoads_ok (l : List Int) (hl : l.length ≤ 2000000) (k : Nat) (hk : l.length < k) : spec_validLoads.f k l = some (okL l && decide (l.length ≤ 16)) := by
  unfold spec_validLoads.f
  exact validLoads_l0 l hl l.length k 0 (by omega) hk

def okFlow (f : List Int) : Bool := okL f && decide (f.length ≤ 6)
theorem containsTurns_val (l : List Int) : hand_Contains_TurnsOf.f l = some (!okL l) := by
  unfold hand_Contains_TurnsOf.f
  congr 1
  unfold okL
  induction l with
  | nil => rfl
  | cons x l ih =>
    rw [List.any_cons, List.all_cons, ih]
    have : (impl_TurnsOf_1.f x).getD false = !(decide (0 ≤ x ∧ x ≤ 30)) := by
      unfold impl_TurnsOf_1.f
      rw [within_val, Option.bind_some]
      rfl
    rw [this, Bool.not_and]

theorem okF_flows (fl : List (List Int)) (h : fl.all okFlow = true) (h4 : fl.length ≤ 4) : okFlows fl := by
  refine ⟨h4, fun j => ?_⟩
  have hj : okFlow (fl.getD j []) = true := by
    rw [List.getD_eq_getElem?_getD]
    by_cases hj : j < fl.length
    · rw [List.getElem?_eq_getElem hj]
      exact List.all_eq_true.1 h _ (List.getElem_mem _)
    · rw [List.getElem?_eq_none (by omega)]
      rfl
  unfold okFlow at hj
  rw [Bool.and_eq_true, decide_eq_true_eq, okL_iff] at hj
  refine ⟨by unfold lenF; omega, fun m => ?_⟩
  generalize fl.getD j [] = f at hj
  rw [List.getD_eq_getElem?_getD]
  by_cases hm : m < f.length
  · rw [List.getElem?_eq_getElem hm]
    exact hj.1 _ (List.getElem_mem _)
  · rw [List.getElem?_eq_none (by omega)]
    exact ⟨Int.le_refl _, by decide⟩

theorem flow_get (fl : List (List Int)) (i : Nat) (h : i < fl.length) : rd_L1 fl (i : Int) = fl[i] := by
  rw [rdL_getD, List.getD_eq_getElem?_getD, List.getElem?_eq_getElem h]
  rfl

theorem validFlows_l0 (fl : List (List Int)) (hl : fl.length ≤ 2000000) (M : Nat) (hM : ∀ f ∈ fl, f.length ≤ M) (hM2 : M ≤ 2000000) : ∀ (d k i : Nat), i + d = fl.length → d + M + 1 < k → spec_validFlows.l0 k fl (i : Int) = some ((fl.drop i).all okFlow && decide (fl.length ≤ 4)) := by
  intro d
  induction d with
  | zero =>
    intro k i hi hk
    obtain ⟨k, rfl⟩ : ∃ m, k = m + 1 := ⟨k - 1, by omega⟩
    rw [spec_validFlows.l0, if_neg (by omega), List.drop_eq_nil_of_le (by omega), List.all_nil, Bool.true_and]
    exact congrArg some (decide_eq_decide.mpr (by omega))
  | succ d ih =>
    intro k i hi hk
    obtain ⟨k, rfl⟩ : ∃ m, k = m + 1 := ⟨k - 1, by omega⟩
    have hil : i < fl.length := by omega
    have hlen := hM fl[i] (List.getElem_mem _)
    rw [spec_validFlows.l0, if_pos (by omega), if_pos (by omega), flow_get fl i hil, validLoads_ok fl[i] (by omega) k (by omega), Option.bind_some, step_nat i (by omega), ih k (i + 1) (by omega) (by omega), List.drop_eq_getElem_cons hil, List.all_cons]
    generalize fl[i] = f
    unfold okFlow
    cases okL f with
    | false => rw [Bool.false_and, Bool.false_and, Bool.false_and, Bool.false_and, if_neg Bool.false_ne_true]
    | true =>
      rw [Bool.true_and, Bool.true_and]
      by_cases h6 : f.length ≤ 6
      · rw [decide_eq_true (show f.length ≤ 16 by omega), if_pos rfl, if_neg (show ¬ (f.length : Int) > 6 by omega), decide_eq_true h6, Bool.true_and]
      · rw [decide_eq_false h6, Bool.false_and, Bool.false_and]
        by_cases h16 : f.length ≤ 16
        · rw [decide_eq_true h16, if_pos rfl, if_pos (show (f.length : Int) > 6 by omega)]
        · rw [decide_eq_false h16, if_neg Bool.false_ne_true]

theorem lenF_get (fl : List (List Int)) (i : Nat) (h : i < fl.length) : lenF fl i = (fl[i].length : Int) := by
  unfold lenF
  rw [List.getD_eq_getElem?_getD, List.getElem?_eq_getElem h]
  rfl

theorem serve_l0 (q : Int) (fl : List (List Int)) (hf : okFlows fl) (out pos cr : List Int) : ∀ (d k i : Nat), i + d = fl.length → spec_serve.l0 (k + d + 1) q fl out pos cr (sumF (lenF fl) i) (i : Int) = spec_serve.l1 k q fl out pos cr (sumF (lenF fl) fl.length) := by
  intro d
  induction d with
  | zero =>
    intro k i hi
    have e : i = fl.length := by omega
    rw [spec_serve.l0, if_neg (by omega), e]
  | succ d ih =>
    intro k i hi
    have hil : i < fl.length := by omega
    have h4 := hf.1
    have hs := sumF_le (lenF fl) i (fun j _ => (hf.2 j).1)
    have hs0 := sumF_nonneg (lenF fl) i (fun j _ => by show 0 ≤ lenF fl j; unfold lenF; omega)
    have hi6 := (hf.2 i).1
    have hlen := lenF_get fl i hil
    have hi0 : 0 ≤ lenF fl i := by unfold lenF; omega
    rw [show k + (d + 1) + 1 = (k + d + 1) + 1 from rfl, spec_serve.l0, if_pos (by omega), if_pos (by omega), flow_get fl i hil, ← hlen, step_nat i (by omega), IntWalk.wrap64_in (sumF (lenF fl) i + lenF fl i) (by omega)]
    exact ih k (i + 1) (by omega)

theorem implTurns_l0 (q : Int) (fl : List (List Int)) (h4 : fl.length ≤ 4) : ∀ (d k i : Nat), i + d = fl.length → (∀ j, j < i → lenF fl j ≤ 6) →
    impl_TurnsOf.l0 (k + d + 1) q fl (sumF (lenF fl) i) fl (fl.length : Int) (i : Int) = (if (fl.drop i).all okFlow = true then impl_TurnsOf.l1 k q fl (sumF (lenF fl) fl.length) [] (List.replicate fl.length 0) (List.replicate fl.length 0) else some []) := by
  intro d
  induction d with
  | zero =>
    intro k i hi hj
    have e : i = fl.length := by omega
    rw [impl_TurnsOf.l0, if_neg (by omega), List.drop_eq_nil_of_le (by omega), List.all_nil, if_pos rfl, if_pos (by omega), if_pos (by rw [Int.toNat_natCast]; omega), Int.toNat_natCast, e]
  | succ d ih =>
    intro k i hi hj
    have hil : i < fl.length := by omega
    have hs := sumF_le (lenF fl) i hj
    have hs0 := sumF_nonneg (lenF fl) i (fun j _ => by show 0 ≤ lenF fl j; unfold lenF; omega)
    have hlen := lenF_get fl i hil
    rw [show k + (d + 1) + 1 = (k + d + 1) + 1 from rfl, impl_TurnsOf.l0, if_pos (by omega), if_pos (by omega), if_pos (by omega), flow_get fl i hil, List.drop_eq_getElem_cons hil, List.all_cons, containsTurns_val, Option.bind_some]
    by_cases h6 : lenF fl i ≤ 6
    · rw [← hlen, if_neg (by omega), step_nat i (by omega), IntWalk.wrap64_in (sumF (lenF fl) i + lenF fl i) (by omega)]
      have e : okFlow fl[i] = okL fl[i] := by
        unfold okFlow
        rw [decide_eq_true (by omega), Bool.and_true]
      rw [e]
      cases okL fl[i] with
      | false => rw [Bool.not_false, if_pos rfl, Bool.false_and, if_neg Bool.false_ne_true]
      | true =>
        rw [Bool.not_true, if_neg Bool.false_ne_true, Bool.true_and]
        exact ih k (i + 1) (by omega) (fun j hj2 => by
          by_cases e : j = i
          · rw [e]; exact h6
          · exact hj j (by omega))
    · have e : okFlow fl[i] = false := by
        unfold okFlow
        rw [decide_eq_false (by omega), Bool.and_false]
      rw [if_pos (by omega), e, Bool.false_and, if_neg Bool.false_ne_true]

theorem turns_ok (q : Int) (fl : List (List Int)) (hl : fl.length ≤ 2000000) (M : Nat) (hM : ∀ f ∈ fl, f.length ≤ M) (hM2 : M ≤ 2000000) :
    ∃ (K : Nat) (r : List Int), (∀ k, K ≤ k → impl_TurnsOf.f k q fl = some r) ∧ (∀ k, K ≤ k → spec_TurnsOf.f k q fl = some r) ∧ r.length ≤ 24 ∧ (r ≠ [] → fl.length ≤ 4 ∧ (∀ j, j < fl.length → cntF r j = lenF fl j) ∧ (r.length : Int) = sumF (lenF fl) fl.length) := by
  by_cases hq : 1 ≤ q ∧ q ≤ 30
  · by_cases hv : fl.all okFlow = true ∧ fl.length ≤ 4
    · have hf := okF_flows fl hv.1 hv.2
      obtain ⟨m, r, e1, e2, e3, e4⟩ := serve_start q hq.1 hq.2 fl hf
      refine ⟨m + fl.length + M + 10, r, fun k hk => ?_, fun k hk => ?_, e2, fun _ => ⟨hv.2, e3, e4⟩⟩
      · obtain ⟨k, rfl⟩ : ∃ j, k = ((j + m) + fl.length + 1) + 1 := ⟨k - m - fl.length - 2, by omega⟩
        have e0 := implTurns_l0 q fl hv.2 fl.length (k + m) 0 (by omega) (fun j hj => by omega)
        rw [List.drop_zero, hv.1, if_pos rfl, (same_steps q fl (k + m)).1, e1 k] at e0
        unfold impl_TurnsOf.f
        rw [within_val, Option.bind_some, decide_eq_true hq, if_pos rfl, decide_eq_false (show ¬ (fl.length : Int) > 4 by omega), impl_TurnsOf.j0, if_neg Bool.false_ne_true]
        exact e0
      · obtain ⟨k, rfl⟩ : ∃ j, k = (j + m) + fl.length + 1 := ⟨k - m - fl.length - 1, by omega⟩
        have e0 := serve_l0 q fl hf [] (List.replicate fl.length 0) (List.replicate fl.length 0) fl.length (k + m) 0 (by omega)
        rw [e1 k] at e0
        have ev := validFlows_l0 fl hl M hM hM2 fl.length (k + m + fl.length + 1) 0 (by omega) (by omega)
        rw [List.drop_zero, hv.1, decide_eq_true hv.2] at ev
        have ev' : spec_validFlows.f (k + m + fl.length + 1) fl = some true := ev
        unfold spec_TurnsOf.f
        rw [inRange_val, Option.bind_some, decide_eq_true hq, if_pos rfl, ev', Option.bind_some, if_pos rfl]
        unfold spec_serve.f
        rw [if_pos (by omega), if_pos (by rw [Int.toNat_natCast]; omega), Int.toNat_natCast]
        rw [show sumF (lenF fl) 0 = 0 from rfl, show ((0 : Nat) : Int) = 0 from rfl] at e0
        rw [e0, Option.bind_some]
    · refine ⟨fl.length + M + 10, [], fun k hk => ?_, fun k hk => ?_, by simp, fun h => absurd rfl h⟩
      · unfold impl_TurnsOf.f
        rw [within_val, Option.bind_some, decide_eq_true hq, if_pos rfl]
        by_cases h4 : fl.length ≤ 4
        · obtain ⟨k, rfl⟩ : ∃ j, k = (j + fl.length + 1) + 1 := ⟨k - fl.length - 2, by omega⟩
          have e0 := implTurns_l0 q fl h4 fl.length k 0 (by omega) (fun j hj => by omega)
          rw [List.drop_zero, if_neg (fun h => hv ⟨h, h4⟩)] at e0
          rw [decide_eq_false (show ¬ (fl.length : Int) > 4 by omega), impl_TurnsOf.j0, if_neg Bool.false_ne_true]
          exact e0
        · obtain ⟨k, rfl⟩ : ∃ j, k = j + 1 := ⟨k - 1, by omega⟩
          rw [decide_eq_true (show (fl.length : Int) > 4 by omega), impl_TurnsOf.j0, if_pos rfl]
      · have ev := validFlows_l0 fl hl M hM hM2 fl.length k 0 (by omega) (by omega)
        have eb : ((fl.drop 0).all okFlow && decide (fl.length ≤ 4)) = false := by
          rw [List.drop_zero, Bool.and_eq_false_iff]
          by_cases h : fl.all okFlow = true
          · exact .inr (decide_eq_false (fun h2 => hv ⟨h, h2⟩))
          · exact .inl (Bool.eq_false_iff.mpr h)
        rw [eb] at ev
        have ev' : spec_validFlows.f k fl = some false := ev
        unfold spec_TurnsOf.f
        rw [inRange_val, Option.bind_some, decide_eq_true hq, if_pos rfl, ev', Option.bind_some, if_neg Bool.false_ne_true]
  · refine ⟨1, [], fun k hk => ?_, fun k hk => ?_, by simp, fun h => absurd rfl h⟩
    · obtain ⟨k, rfl⟩ : ∃ j, k = j + 1 := ⟨k - 1, by omega⟩
      unfold impl_TurnsOf.f
      rw [within_val, Option.bind_some, decide_eq_false hq, if_neg Bool.false_ne_true, impl_TurnsOf.j0, if_pos rfl]
    · unfold spec_TurnsOf.f
      rw [inRange_val, Option.bind_some, decide_eq_false hq, if_neg Bool.false_ne_true]

theorem toIntS_l0 (l : List Int) (hl : l.length ≤ 2000000) : ∀ (d k i : Nat) (o : List Int), i + d = l.length → d < k → o.length = l.length → (∀ j, j < i → o[j]? = l[j]?) → laws_toIntS.l0 k l o (i : Int) = some l := by
  intro d
  induction d with
  | zero =>
    intro k i o hi hk ho hj
    obtain ⟨k, rfl⟩ : ∃ m, k = m + 1 := ⟨k - 1, by omega⟩
    simp only [laws_toIntS.l0]
    rw [if_neg (by omega)]
    congr 1
    apply List.ext_getElem?
    intro j
    by_cases h : j < l.length
    · exact hj j (by omega)
    · rw [List.getElem?_eq_none (by omega), List.getElem?_eq_none (by omega)]
  | succ d ih =>
    intro k i o hi hk ho hj
    obtain ⟨k, rfl⟩ : ∃ m, k = m + 1 := ⟨k - 1, by omega⟩
    simp only [laws_toIntS.l0]
    rw [if_pos (by omega), if_pos (by omega), if_pos (by omega), step_nat i (by omega), Int.toNat_natCast, rd_nat l i (by omega)]
    refine ih k (i + 1) _ (by omega) (by omega) (by rw [List.length_set]; exact ho) ?_
    intro j hji
    by_cases e : i = j
    · subst e
      rw [List.getElem?_set_self (by omega), List.getElem?_eq_getElem (by omega)]
    · rw [List.getElem?_set_ne e]
      exact hj j (by omega)

theorem toIntS_ok (l : List Int) (hl : l.length ≤ 2000000) (k : Nat) (hk : l.length < k) : laws_toIntS.f k l = some l := by
  unfold laws_toIntS.f
  rw [if_pos (by omega), if_pos (by rw [Int.toNat_natCast]; omega), Int.toNat_natCast]
  exact toIntS_l0 l hl l.length k 0 _ (by omega) hk (List.length_replicate ..) (fun j hj => absurd hj (Nat.not_lt_zero _))

theorem eqIntS_l0 (a b : List Int) (hab : a.length = b.length) (hl : a.length ≤ 2000000) : ∀ (d k i : Nat), i + d = a.length → d < k → laws_eqIntS.l0 k a b (i : Int) = some (decide (a.drop i = b.drop i)) := by
  intro d
  induction d with
  | zero =>
    intro k i hi hk
    obtain ⟨k, rfl⟩ : ∃ m, k = m + 1 := ⟨k - 1, by omega⟩
    simp only [laws_eqIntS.l0]
    rw [if_neg (by omega), List.drop_eq_nil_of_le (by omega), List.drop_eq_nil_of_le (by omega)]
    rfl
  | succ d ih =>
    intro k i hi hk
    obtain ⟨k, rfl⟩ : ∃ m, k = m + 1 := ⟨k - 1, by omega⟩
    simp only [laws_eqIntS.l0]
    rw [if_pos (by omega), if_pos (by omega), if_pos (by omega), step_nat i (by omega), rd_nat a i (by omega), rd_nat b i (by omega)]
    rw [List.drop_eq_getElem_cons (by omega : i < a.length), List.drop_eq_getElem_cons (by omega : i < b.length)]
    by_cases e : a[i]'(by omega) = b[i]'(by omega)
    · rw [if_pos e, ih k (i + 1) (by omega) (by omega), e]
      exact congrArg some (decide_eq_decide.mpr ⟨fun h => by rw [h], fun h => (List.cons.inj h).2⟩)
    · rw [if_neg e]
      exact congrArg some (decide_eq_false (fun h => e (List.cons.inj h).1)).symm

theorem eqIntS_ok (a b : List Int) (hl : a.length ≤ 2000000) (k : Nat) (hk : a.length < k) : laws_eqIntS.f k a b = some (decide (a = b)) := by
  unfold laws_eqIntS.f
  by_cases h : a.length = b.length
  · rw [if_pos (by omega)]
    exact eqIntS_l0 a b h hl a.length k 0 (by omega) hk
  · rw [if_neg (by omega), decide_eq_false (fun e => h (by rw [e]))]

theorem eqIntS_self (a : List Int) (hl : a.length ≤ 2000000) (k : Nat) (hk : a.length < k) : laws_eqIntS.f k a a = some true := by
  rw [eqIntS_ok a a hl k hk, decide_eq_true rfl]

/-- m, m + 1, .. : n numbers. -/
def iota (m : Int) (n : Nat) : List Int := (List.range n).map fun j : Nat => m + (j : Int)

theorem iota_length (m : Int) (n : Nat) : (iota m n).length = n := by simp [iota]
theorem iota_get (m : Int) (n j : Nat) (h : j < (iota m n).length) : (iota m n)[j] = m + (j : Int) := by simp [iota]
theorem iota_get? (m : Int) (n j : Nat) (h : j < n) : (iota m n)[j]? = some (m + (j : Int)) := by
  rw [List.getElem?_eq_getElem (by rw [iota_length]; exact h), iota_get]

theorem markIntS_l0 (n : Nat) (m : Int) (hn : n ≤ 2000000) (hm : 0 ≤ m) (hm' : m ≤ 4000000) : ∀ (d k i : Nat) (o : List Int), i + d = n → d < k → o.length = n → (∀ j, j < i → o[j]? = (iota m n)[j]?) → laws_markIntS.l0 k o (m + (i : Int)) (i : Int) = some (m + (n : Int), iota m n) := by
  intro d
  induction d with
  | zero =>
    intro k i o hi hk ho hj
    obtain ⟨k, rfl⟩ : ∃ m, k = m + 1 := ⟨k - 1, by omega⟩
    simp only [laws_markIntS.l0]
    rw [if_neg (by omega)]
    have e : i = n := by omega
    subst e
    congr 2
    apply List.ext_getElem?
    intro j
    by_cases h : j < i
    · exact hj j h
    · rw [List.getElem?_eq_none (by omega), List.getElem?_eq_none (by rw [iota_length]; omega)]
  | succ d ih =>
    intro k i o hi hk ho hj
    obtain ⟨k, rfl⟩ : ∃ m, k = m + 1 := ⟨k - 1, by omega⟩
    simp only [laws_markIntS.l0]
    rw [if_pos (by omega), if_pos (by omega), step_nat i (by omega), Int.toNat_natCast, (IntWalk.wrap64_in (m + (i : Int) + 1) (by omega)).trans (show m + (i : Int) + 1 = m + ((i + 1 : Nat) : Int) by omega)]
    refine ih k (i + 1) _ (by omega) (by omega) (by rw [List.length_set]; exact ho) ?_
    intro j hji
    by_cases e : i = j
    · subst e
      rw [List.getElem?_set_self (by omega), iota_get? m n i (by omega)]
    · rw [List.getElem?_set_ne e]
      exact hj j (by omega)

theorem markIntS_ok (l : List Int) (m : Int) (hl : l.length ≤ 2000000) (hm : 0 ≤ m) (hm' : m ≤ 4000000) (k : Nat) (hk : l.length < k) : laws_markIntS.f k l m = some (m + (l.length : Int), iota m l.length) := by
  unfold laws_markIntS.f
  have h := markIntS_l0 l.length m hl hm hm' l.length k 0 l (by omega) hk rfl (fun j hj => absurd hj (Nat.not_lt_zero _))
  rw [show m + ((0 : Nat) : Int) = m by omega] at h
  exact h

theorem heldIntS_l0 (n : Nat) (m : Int) (hn : n ≤ 2000000) (hm : 0 ≤ m) (hm' : m ≤ 4000000) : ∀ (d k i : Nat), i + d = n → d < k → laws_heldIntS.l0 k (iota m n) (m + (i : Int)) (i : Int) = some (m + (n : Int)) := by
  intro d
  induction d with
  | zero =>
    intro k i hi hk
    obtain ⟨k, rfl⟩ : ∃ m, k = m + 1 := ⟨k - 1, by omega⟩
    simp only [laws_heldIntS.l0]
    rw [if_neg (by rw [iota_length]; omega)]
    have e : i = n := by omega
    rw [e]
  | succ d ih =>
    intro k i hi hk
    obtain ⟨k, rfl⟩ : ∃ m, k = m + 1 := ⟨k - 1, by omega⟩
    simp only [laws_heldIntS.l0]
    rw [if_pos (by rw [iota_length]; omega), if_pos (by omega), rd_nat _ i (by rw [iota_length]; omega), iota_get, if_pos rfl, step_nat i (by omega), (IntWalk.wrap64_in (m + (i : Int) + 1) (by omega)).trans (show m + (i : Int) + 1 = m + ((i + 1 : Nat) : Int) by omega)]
    exact ih k (i + 1) (by omega) (by omega)

theorem heldIntS_ok (n : Nat) (m : Int) (hn : n ≤ 2000000) (hm : 0 ≤ m) (hm' : m ≤ 4000000) (k : Nat) (hk : n < k) : laws_heldIntS.f k (iota m n) m = some (m + (n : Int)) := by
  unfold laws_heldIntS.f
  have h := heldIntS_l0 n m hn hm hm' n k 0 (by omega) hk
  rw [show m + ((0 : Nat) : Int) = m by omega] at h
  exact h

theorem szSS_l0 (l : List (List Int)) (hl : l.length ≤ 1048576) (hM : ∀ f ∈ l, f.length ≤ maxLen) : ∀ (d k i : Nat), i + d = l.length → d < k → 0 ≤ 1048576 - (l.length : Int) - sumF (lenF l) i → ∃ s, laws_szIntSS.l0 k l (1048576 - (l.length : Int) - sumF (lenF l) i) (i : Int) = some s ∧ (0 ≤ s → sumF (lenF l) l.length ≤ 1048576) := by
  have hm : maxLen ≤ 9223372036854775807 := by decide
  intro d
  induction d with
  | zero =>
    intro k i hi hk h0
    obtain ⟨k, rfl⟩ : ∃ m, k = m + 1 := ⟨k - 1, by omega⟩
    have e : i = l.length := by omega
    subst e
    refine ⟨_, by rw [laws_szIntSS.l0, if_neg (by omega)], fun h => by omega⟩
  | succ d ih =>
    intro k i hi hk h0
    obtain ⟨k, rfl⟩ : ∃ m, k = m + 1 := ⟨k - 1, by omega⟩
    have hil : i < l.length := by omega
    have hs0 := sumF_nonneg (lenF l) i (fun j _ => by show 0 ≤ lenF l j; unfold lenF; omega)
    have hlen := lenF_get l i hil
    have hf := hM l[i] (List.getElem_mem _)
    have hsz : laws_szIntS.f (rd_L1 l (i : Int)) (1048576 - (l.length : Int) - sumF (lenF l) i) = some (if 1048576 - (l.length : Int) - sumF (lenF l) (i + 1) < 0 then -1 else 1048576 - (l.length : Int) - sumF (lenF l) (i + 1)) := by
      unfold laws_szIntS.f
      rw [flow_get l i hil, ← hlen, sumF, show 1048576 - (l.length : Int) - sumF (lenF l) i - lenF l i = 1048576 - (l.length : Int) - (sumF (lenF l) i + lenF l i) by omega, IntWalk.wrap64_in _ (by omega)]
      by_cases h : 1048576 - (l.length : Int) - (sumF (lenF l) i + lenF l i) < 0
      · rw [if_pos h, if_pos h]
      · rw [if_neg h, if_neg h]
    rw [laws_szIntSS.l0, if_pos (by omega), if_pos (by omega), hsz, Option.bind_some, step_nat i (by omega)]
    by_cases h : 1048576 - (l.length : Int) - sumF (lenF l) (i + 1) < 0
    · rw [if_pos h, if_pos (by omega)]
      exact ⟨_, rfl, fun h => by omega⟩
    · rw [if_neg h, if_neg h]
      exact ih k (i + 1) (by omega) (by omega) (by omega)

theorem toSS_l0 (l : List (List Int)) (hl : l.length ≤ 1048576) (hM : ∀ f ∈ l, f.length ≤ 1048576) : ∀ (d k i : Nat) (o : List (List Int)), i + d = l.length → d + 1048578 ≤ k → o.length = l.length → (∀ j, j < i → o[j]? = l[j]?) → laws_toIntSS.l0 k l o (i : Int) = some l := by
  intro d
  induction d with
  | zero =>
    intro k i o hi hk ho hj
    obtain ⟨k, rfl⟩ : ∃ m, k = m + 1 := ⟨k - 1, by omega⟩
    rw [laws_toIntSS.l0, if_neg (by omega)]
    congr 1
    apply List.ext_getElem?
    intro j
    by_cases h : j < l.length
    · exact hj j (by omega)
    · rw [List.getElem?_eq_none (by omega), List.getElem?_eq_none (by omega)]
  | succ d ih =>
    intro k i o hi hk ho hj
    obtain ⟨k, rfl⟩ : ∃ m, k = m + 1 := ⟨k - 1, by omega⟩
    have hil : i < l.length := by omega
    have hf := hM l[i] (List.getElem_mem _)
    rw [laws_toIntSS.l0, if_pos (by omega), if_pos (by omega), flow_get l i hil, toIntS_ok l[i] (by omega) k (by omega), Option.bind_some, if_pos (by omega), step_nat i (by omega), Int.toNat_natCast]
    refine ih k (i + 1) _ (by omega) (by omega) (by rw [List.length_set]; exact ho) ?_
    intro j hji
    by_cases e : i = j
    · subst e
      rw [List.getElem?_set_self (by omega), List.getElem?_eq_getElem hil]
    · rw [List.getElem?_set_ne e]
      exact hj j (by omega)

theorem eqSS_l0 (l : List (List Int)) (hl : l.length ≤ 1048576) (hM : ∀ f ∈ l, f.length ≤ 1048576) : ∀ (d k i : Nat), i + d = l.length → d + 1048578 ≤ k → laws_eqIntSS.l0 k l l (i : Int) = some true := by
  intro d
  induction d with
  | zero =>
    intro k i hi hk
    obtain ⟨k, rfl⟩ : ∃ m, k = m + 1 := ⟨k - 1, by omega⟩
    rw [laws_eqIntSS.l0, if_neg (by omega)]
  | succ d ih =>
    intro k i hi hk
    obtain ⟨k, rfl⟩ : ∃ m, k = m + 1 := ⟨k - 1, by omega⟩
    have hil : i < l.length := by omega
    have hf := hM l[i] (List.getElem_mem _)
    rw [laws_eqIntSS.l0, if_pos (by omega), if_pos (by omega), if_pos (by omega), flow_get l i hil, eqIntS_self l[i] (by omega) k (by omega), Option.bind_some, if_pos rfl, step_nat i (by omega)]
    exact ih k (i + 1) (by omega) (by omega)

theorem markSS_l0 (l : List (List Int)) (hl : l.length ≤ 1048576) (hM : ∀ f ∈ l, f.length ≤ 1048576) (hs : sumF (lenF l) l.length ≤ 1048576) : ∀ (d k i : Nat), i + d = l.length → d + 1048578 ≤ k → sumF (lenF l) i ≤ 1048576 → laws_markIntSS.l0 k l (1 + sumF (lenF l) i) (i : Int) = some (1 + sumF (lenF l) l.length) := by
  have hle : ∀ m, sumF (lenF l) m ≤ sumF (lenF l) (m + 1) := fun m => by
    have h0 : 0 ≤ lenF l m := by unfold lenF; omega
    rw [sumF]; omega
  intro d
  induction d with
  | zero =>
    intro k i hi hk hb
    obtain ⟨k, rfl⟩ : ∃ m, k = m + 1 := ⟨k - 1, by omega⟩
    have e : i = l.length := by omega
    rw [laws_markIntSS.l0, if_neg (by omega), e]
  | succ d ih =>
    intro k i hi hk hb
    obtain ⟨k, rfl⟩ : ∃ m, k = m + 1 := ⟨k - 1, by omega⟩
    have hil : i < l.length := by omega
    have hf := hM l[i] (List.getElem_mem _)
    have hs0 := sumF_nonneg (lenF l) i (fun j _ => by show 0 ≤ lenF l j; unfold lenF; omega)
    have hlen := lenF_get l i hil
    have hg : l.getD i [] = l[i] := by rw [List.getD_eq_getElem?_getD, List.getElem?_eq_getElem hil]; rfl
    have hmono : ∀ (a b : Nat), a ≤ b → sumF (lenF l) a ≤ sumF (lenF l) b := by
      intro a b hab
      obtain ⟨c, rfl⟩ : ∃ c, b = a + c := ⟨b - a, by omega⟩
      clear hab
      induction c with
      | zero => exact Int.le_refl _
      | succ c ihc => exact Int.le_trans ihc (hle (a + c))
    have hb2 := hmono (i + 1) l.length (by omega)
    rw [laws_markIntSS.l0, if_pos (by omega), if_pos (by omega), Int.toNat_natCast, hg, markIntS_ok l[i] (1 + sumF (lenF l) i) (by omega) (by omega) (by omega) k (by omega), Option.bind_some, step_nat i (by omega)]
    show laws_markIntSS.l0 k l (1 + sumF (lenF l) i + (l[i].length : Int)) ((i + 1 : Nat) : Int) = _
    rw [← hlen, show 1 + sumF (lenF l) i + lenF l i = 1 + sumF (lenF l) (i + 1) by rw [sumF]; omega]
    exact ih k (i + 1) (by omega) (by omega) (by omega)

theorem run (q : Int) (A0 : Option Addr) (c0 : Nat) (l : List (List Int)) (w : World) (hr0 : Kd.C (Kd.slice 3 (Kd.int .i64)) w A0 l.length l) (hc0 : l.length ≤ c0) (hl : l.length ≤ maxLen) (hM : ∀ f ∈ l, f.length ≤ maxLen) :
    Calls Try.prog 3 #[.int .i64 q, .slice A0 l.length c0] w fun e w' => e = .returned (.bool true) ∧ Below w.heap.size w w' := by
  have hm : maxLen ≤ 9223372036854775807 := by decide
  have hw : wrap64 (1048576 - (l.length : Int)) = 1048576 - (l.length : Int) := IntWalk.wrap64_in _ (by omega)
  by_cases hn : 1048576 - (l.length : Int) < 0
  · refine laws_FnExactTurnsOf.walk_early 0 q A0 c0 l (-1) w hr0 hc0 ?_ (by omega)
    unfold laws_szIntSS.f
    rw [hw, if_pos hn]
  · have hsz : ∀ k, l.length < k → ∃ s, laws_szIntSS.f k l 1048576 = some s ∧ (0 ≤ s → sumF (lenF l) l.length ≤ 1048576) := by
      intro k hk
      obtain ⟨s, e1, e2⟩ := szSS_l0 l (by omega) hM l.length k 0 (by omega) hk (by rw [show sumF (lenF l) 0 = 0 from rfl]; omega)
      rw [show sumF (lenF l) 0 = 0 from rfl, Int.sub_zero, show ((0 : Nat) : Int) = 0 from rfl] at e1
      refine ⟨s, ?_, e2⟩
      unfold laws_szIntSS.f
      rw [hw, if_neg hn]
      exact e1
    by_cases hneg : ∃ k s, l.length < k ∧ laws_szIntSS.f k l 1048576 = some s ∧ s < 0
    · obtain ⟨k, s, _, h1, h2⟩ := hneg
      exact laws_FnExactTurnsOf.walk_early k q A0 c0 l s w hr0 hc0 h1 h2
    · have hpos : ∀ k, l.length < k → ∃ s, laws_szIntSS.f k l 1048576 = some s ∧ 0 ≤ s ∧ sumF (lenF l) l.length ≤ 1048576 := by
        intro k hk
        obtain ⟨s, e1, e2⟩ := hsz k hk
        have h0 : 0 ≤ s := by
          apply Decidable.byContradiction
          intro h
          exact hneg ⟨k, s, hk, e1, by omega⟩
        exact ⟨s, e1, h0, e2 h0⟩
      have hsum : sumF (lenF l) l.length ≤ 1048576 := by
        obtain ⟨s, _, _, h⟩ := hpos (l.length + 1) (by omega)
        exact h
      have hM' : ∀ f ∈ l, f.length ≤ 1048576 := by
        intro f hf
        obtain ⟨i, hi, rfl⟩ := List.getElem_of_mem hf
        have h1 := sumF_upd (lenF l) (fun x => if x = i then 0 else lenF l x) i l.length hi (fun x _ hne => if_neg hne)
        have h2 := sumF_nonneg (fun x => if x = i then 0 else lenF l x) l.length (fun x _ => by
          show 0 ≤ (if x = i then (0 : Int) else lenF l x)
          by_cases e : x = i
          · rw [if_pos e]; exact Int.le_refl _
          · rw [if_neg e]; unfold lenF; omega)
        rw [h1] at h2
        have h3 : (if i = i then (0 : Int) else lenF l i) = 0 := if_pos rfl
        have h4 : 0 ≤ sumF (lenF l) l.length - lenF l i + (if i = i then (0 : Int) else lenF l i) := h2
        rw [h3, lenF_get l i hi] at h4
        omega
      obtain ⟨K, r, t1, t2, t3, _⟩ := turns_ok q l (by omega) 1048576 hM' (by omega)
      have hk : K ≤ K + (l.length + 1048578) := Nat.le_add_right _ _
      generalize hk2 : K + (l.length + 1048578) = k at hk
      have hkl : l.length + 1048578 ≤ k := by omega
      clear hk2
      obtain ⟨s, s1, s2, _⟩ := hpos k (by omega)
      have e1 : laws_toIntSS.f k l = some l := by
        unfold laws_toIntSS.f
        rw [if_pos (by omega), if_pos (by rw [Int.toNat_natCast]; omega), Int.toNat_natCast]
        exact toSS_l0 l (by omega) hM' l.length k 0 _ (by omega) hkl (List.length_replicate ..) (fun j hj => absurd hj (Nat.not_lt_zero _))
      have e2 : laws_eqIntSS.f k l l = some true := by
        unfold laws_eqIntSS.f
        rw [if_pos rfl]
        exact eqSS_l0 l (by omega) hM' l.length k 0 (by omega) hkl
      have e3 : laws_markIntSS.f k l 1 = some (1 + sumF (lenF l) l.length) := markSS_l0 l (by omega) hM' hsum l.length k 0 (by omega) hkl (by rw [show sumF (lenF l) 0 = 0 from rfl]; omega)
      have h0 := sumF_nonneg (lenF l) l.length (fun j _ => by show 0 ≤ lenF l j; unfold lenF; omega)
      exact laws_FnExactTurnsOf.walk_true k q A0 c0 l r (iota 1 r.length) s (1 + sumF (lenF l) l.length) (1 + (r.length : Int)) w hr0 hc0 s1 s2 e1 (t2 k hk) (t1 k hk) (eqIntS_self r (by omega) k (by omega)) e2 e3 (by omega)
        (markIntS_ok r 1 (by omega) (by omega) (by omega) k (by omega)) (heldIntS_ok r.length 1 (by omega) (by omega) (by omega) k (by omega)) (by omega) (fun n hn => step_nat n (by omega))

end Go.Proofs.Ytdppkdcfocaemaa.Pure
