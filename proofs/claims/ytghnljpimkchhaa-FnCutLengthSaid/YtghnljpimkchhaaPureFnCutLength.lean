/- Cut pieces are a whole: FnCutLength returns true for every list of bytes. Conditions: none. -/
import Derived.Test.YtghnljpimkchhaaHFnCutLengthx6
namespace Go.Proofs.Ytghnljpimkchhaa.Pure
open Go.RowKit Go.Proofs.Ytghnljpimkchhaa.HFnCutLength Go.Proofs.YtghnljpimkchhaaW.PrintWords Go.Proofs.YtghnljpimkchhaaW.PrintLast
open Go
set_option linter.unusedVariables false
set_option linter.unusedSimpArgs false

theorem rd_nat (l : List Int) (i : Nat) (h : i < l.length) : rd l (i : Int) = l[i] := by
  unfold rd
  rw [Int.toNat_natCast, List.getD_eq_getElem?_getD, List.getElem?_eq_getElem h]
  rfl

theorem step_nat (i : Nat) (h : i < 4611686018427387904) : wrap64 ((i : Int) + 1) = ((i + 1 : Nat) : Int) := by
  rw [IntWalk.wrap64_in ((i : Int) + 1) (by omega)]
  rfl

theorem within_val (x a b : Int) : impl_within.f x a b = some (decide (a ≤ x ∧ x ≤ b)) := by
  unfold impl_within.f
  by_cases h : a ≤ x
  · rw [if_pos h]; simp [h]
  · rw [if_neg h]; simp [h]

theorem inRange_val (x a b : Int) : spec_inRange.f x a b = some (decide (a ≤ x ∧ x ≤ b)) := by
  unfold spec_inRange.f
  by_cases h : a ≤ x
  · rw [if_pos h]; simp [h]
  · rw [if_neg h]; simp [h]

def okP1 (x : S47) : Bool := decide (0 ≤ x.f0 ∧ x.f0 ≤ 59) && decide (1 ≤ x.f1 ∧ x.f1 ≤ wrap64 (60 - x.f0))
def okP (l : List S47) : Bool := l.all okP1 && decide (l.length ≤ 20)

theorem vp1_val (x : S47) : impl_ValidPieces_1.f x.f0 x.f1 x.f2 = some (!(okP1 x)) := by
  unfold impl_ValidPieces_1.f okP1
  rw [within_val, Option.bind_some, within_val, Option.bind_some]
  by_cases h : 0 ≤ x.f0 ∧ x.f0 ≤ 59
  · rw [decide_eq_true h, if_pos rfl, Bool.true_and]
  · rw [decide_eq_false h, if_neg Bool.false_ne_true, Bool.false_and, Bool.not_false]

theorem implVP_val (l : List S47) : impl_ValidPieces.f l = some (okP l) := by
  unfold impl_ValidPieces.f hand_Contains_ValidPieces.f
  have hany : (l.any fun x => (impl_ValidPieces_1.f x.f0 x.f1 x.f2).getD false) = !(l.all okP1) := by
    induction l with
    | nil => rfl
    | cons x l ih =>
      rw [List.any_cons, List.all_cons, ih, vp1_val, Option.getD_some]
      show (!(okP1 x) || !(l.all okP1)) = !(okP1 x && l.all okP1)
      rw [Bool.not_and]
  rw [hany, Option.bind_some, Bool.not_not]
  unfold okP
  by_cases h : l.length ≤ 20
  · rw [if_pos (by omega), decide_eq_true h, Bool.and_true]
  · rw [if_neg (by omega), decide_eq_false h, Bool.and_false]

theorem rdP47_nat (l : List S47) (i : Nat) (h : i < l.length) : rd_T47 l (i : Int) = l[i] := by
  unfold rd_T47
  rw [Int.toNat_natCast, List.getD_eq_getElem?_getD, List.getElem?_eq_getElem h]
  rfl

def sE (x : S47) : Int := wrap64 (x.f0 + x.f1)
theorem sE_pos (x : S47) (h : okP1 x = true) : (0 ≤ x.f0 ∧ 1 ≤ x.f1) ∧ sE x = x.f0 + x.f1 ∧ sE x ≤ 60 := by
  unfold okP1 at h
  rw [Bool.and_eq_true, decide_eq_true_eq, decide_eq_true_eq] at h
  obtain ⟨h1, h2, h3⟩ := h
  rw [IntWalk.wrap64_in (60 - x.f0) (by omega)] at h3
  unfold sE
  rw [IntWalk.wrap64_in (x.f0 + x.f1) (by omega)]
  omega
def scanE : List S47 → Int → Option Int
  | [], e => some e
  | x :: t, e => if x.f2 = true then scanE t e else (if e ≥ 0 then (if sE x = e then scanE t (sE x) else none) else scanE t (sE x))
def finI (l : List S47) : Option Int → Int × Bool
  | none => (-1, false)
  | some e => if e ≥ 0 then (if l.any (hand_endP e) = true then (-1, false) else (e, true)) else (e, true)
def badS (e : Int) (x : S47) : Bool := decide (sE x > e) || (x.f2 && decide (sE x = e))
def finS (l : List S47) : Option Int → Int
  | none => -2
  | some e => if e ≥ 0 then (if l.any (badS e) = true then -2 else e) else e

theorem implEnd_l0 (l : List S47) (hl : l.length ≤ 2000000) : ∀ (d k i : Nat) (e : Int), i + d = l.length → d < k → impl_EndOf.l0 k l e (i : Int) = some (finI l (scanE (l.drop i) e)) := by
  intro d
  induction d with
  | zero =>
    intro k i e hi hk
    obtain ⟨k, rfl⟩ : ∃ m, k = m + 1 := ⟨k - 1, by omega⟩
    rw [impl_EndOf.l0, if_neg (show ¬ (i : Int) < (l.length : Int) by omega), List.drop_eq_nil_of_le (by omega), scanE, finI]
    by_cases h : e ≥ 0
    · rw [if_pos h, if_pos h]
      by_cases h2 : l.any (hand_endP e) = true
      · rw [if_pos h2, if_pos h2]
      · rw [if_neg h2, if_neg h2]
    · rw [if_neg h, if_neg h]
  | succ d ih =>
    intro k i e hi hk
    obtain ⟨k, rfl⟩ : ∃ m, k = m + 1 := ⟨k - 1, by omega⟩
    rw [impl_EndOf.l0, if_pos (show (i : Int) < (l.length : Int) by omega), if_pos (show (0 : Int) ≤ (i : Int) by omega), rdP47_nat l i (by omega), step_nat i (by omega), List.drop_eq_getElem_cons (by omega : i < l.length), scanE]
    generalize l[i]'(by omega) = x
    have es : wrap64 (x.f0 + x.f1) = sE x := rfl
    rw [es]
    by_cases h1 : x.f2 = true
    · rw [if_pos h1, if_pos h1, ih k (i + 1) e (by omega) (by omega)]
    · rw [if_neg h1, if_neg h1]
      by_cases h2 : e ≥ 0
      · rw [if_pos h2, if_pos h2]
        by_cases h3 : sE x = e
        · rw [if_pos h3, if_pos h3, ih k (i + 1) _ (by omega) (by omega)]
        · rw [if_neg h3, if_neg h3, finI]
      · rw [if_neg h2, if_neg h2, ih k (i + 1) _ (by omega) (by omega)]

theorem scanE_facts : ∀ (l : List S47) (e0 e : Int), (∀ x ∈ l, 1 ≤ sE x) → scanE l e0 = some e → (0 ≤ e0 → e = e0) ∧ (∀ x ∈ l, x.f2 = false → sE x = e) ∧ (e = e0 ∨ ∃ x ∈ l, x.f2 = false ∧ sE x = e) := by
  intro l
  induction l with
  | nil =>
    intro e0 e _ h
    rw [scanE] at h
    cases h
    exact ⟨fun _ => rfl, fun x hx => absurd hx (by simp), .inl rfl⟩
  | cons x t ih =>
    intro e0 e hp h
    have hpt : ∀ y ∈ t, 1 ≤ sE y := fun y hy => hp y (List.mem_cons_of_mem _ hy)
    have hpx := hp x (List.mem_cons_self ..)
    rw [scanE] at h
    by_cases h1 : x.f2 = true
    · rw [if_pos h1] at h
      obtain ⟨g1, g2, g3⟩ := ih e0 e hpt h
      refine ⟨g1, fun y hy hf => ?_, ?_⟩
      · rcases List.mem_cons.1 hy with rfl | hy
        · rw [h1] at hf; cases hf
        · exact g2 y hy hf
      · rcases g3 with g3 | ⟨y, hy, g⟩
        · exact .inl g3
        · exact .inr ⟨y, List.mem_cons_of_mem _ hy, g⟩
    · rw [if_neg h1] at h
      have h1' := Bool.eq_false_iff.mpr h1
      by_cases h2 : e0 ≥ 0
      · rw [if_pos h2] at h
        by_cases h3 : sE x = e0
        · rw [if_pos h3] at h
          obtain ⟨g1, g2, g3⟩ := ih (sE x) e hpt h
          have ge := g1 (by omega)
          refine ⟨fun _ => by omega, fun y hy hf => ?_, .inl (by omega)⟩
          rcases List.mem_cons.1 hy with rfl | hy
          · exact ge.symm
          · exact g2 y hy hf
        · rw [if_neg h3] at h; cases h
      · rw [if_neg h2] at h
        obtain ⟨g1, g2, g3⟩ := ih (sE x) e hpt h
        have ge := g1 (by omega)
        refine ⟨fun h => absurd h (by omega), fun y hy hf => ?_, .inr ⟨x, List.mem_cons_self .., h1', ge.symm⟩⟩
        rcases List.mem_cons.1 hy with rfl | hy
        · exact ge.symm
        · exact g2 y hy hf

theorem scanE_append (l m : List S47) : ∀ e0, scanE (l ++ m) e0 = (scanE l e0).bind (scanE m) := by
  induction l with
  | nil => intro e0; rfl
  | cons x t ih =>
    intro e0
    rw [List.cons_append, scanE, scanE]
    by_cases h1 : x.f2 = true
    · rw [if_pos h1, if_pos h1, ih]
    · rw [if_neg h1, if_neg h1]
      by_cases h2 : e0 ≥ 0
      · rw [if_pos h2, if_pos h2]
        by_cases h3 : sE x = e0
        · rw [if_pos h3, if_pos h3, ih]
        · rw [if_neg h3, if_neg h3]; rfl
      · rw [if_neg h2, if_neg h2, ih]

theorem okP_pos (l : List S47) (h : okP l = true) : ∀ x ∈ l, 1 ≤ sE x := by
  unfold okP at h
  rw [Bool.and_eq_true, List.all_eq_true] at h
  intro x hx
  have := sE_pos x (h.1 x hx)
  omega

theorem any_congr (l : List S47) (p q : S47 → Bool) (h : ∀ x ∈ l, p x = q x) : l.any p = l.any q := by
  induction l with
  | nil => rfl
  | cons x t ih => rw [List.any_cons, List.any_cons, h x (List.mem_cons_self ..), ih (fun y hy => h y (List.mem_cons_of_mem _ hy))]

def endM (l : List S47) : Int × Bool := if okP l = true then finI l (scanE l (-1)) else (-1, false)

theorem implEnd_ok (l : List S47) (hl : l.length ≤ 2000000) (k : Nat) (hk : l.length < k) : impl_EndOf.f k l = some (endM l) := by
  unfold impl_EndOf.f endM
  rw [implVP_val, Option.bind_some]
  by_cases h : okP l = true
  · rw [if_pos h, if_pos h]
    have := implEnd_l0 l hl l.length k 0 (-1) (by omega) hk
    rw [List.drop_zero] at this
    exact this
  · rw [if_neg h, if_neg h]

def pcN (q : Nat × Nat) : S47 := ⟨(q.1 : Int), (q.2 : Int), false⟩
def pcM (n : Int) (q : Nat × Nat) : S47 := ⟨(q.1 : Int), (q.2 : Int), decide ((q.1 : Int) + (q.2 : Int) < n)⟩
/-- The rows of numbers that a test lets in, from place i on, z of which are open. -/
def canon (h : Nat → Bool) : Nat → Nat → Nat → List (Nat × Nat)
  | 0, i, z => if z = 0 then [] else [(i - z, z)]
  | d + 1, i, z => if h i = true then canon h d (i + 1) (z + 1) else (if z = 0 then canon h d (i + 1) 0 else (i - z, z) :: canon h d (i + 1) 0)
def openN (i z : Nat) : List S47 := if z = 0 then [] else [pcN (i - z, z)]

theorem rdP_last (fin : List S47) (a : S47) : rd_T47 (fin ++ [a]) (fin.length : Int) = a := by
  rw [rdP47_nat _ _ (by rw [List.length_append, List.length_singleton]; omega), List.getElem_append_right (by omega)]
  simp

theorem rows_l0 (p : Int → Bool) (n : Nat) (hn : n ≤ 60) : ∀ (d k i z : Nat) (fin : List S47), i + d = n → d < k → z ≤ i → fin.length ≤ i → (∀ x ∈ fin, 0 ≤ x.f0 + x.f1 ∧ x.f0 + x.f1 < (i : Int)) →
    impl_rows.l0 p k (fin ++ openN i z) (n : Int) (i : Int) = some (fin ++ (canon (fun j => p (j : Int)) d i z).map pcN) := by
  intro d
  induction d with
  | zero =>
    intro k i z fin hi hk hz hl hf
    obtain ⟨k, rfl⟩ : ∃ m, k = m + 1 := ⟨k - 1, by omega⟩
    rw [impl_rows.l0, if_neg (show ¬ (i : Int) < (n : Int) by omega), canon, openN]
    by_cases h : z = 0
    · rw [if_pos h, if_pos h]; rfl
    · rw [if_neg h, if_neg h]; rfl
  | succ d ih =>
    intro k i z fin hi hk hz hl hf
    obtain ⟨k, rfl⟩ : ∃ m, k = m + 1 := ⟨k - 1, by omega⟩
    have hf' : ∀ x ∈ fin, 0 ≤ x.f0 + x.f1 ∧ x.f0 + x.f1 < ((i + 1 : Nat) : Int) := fun x hx => ⟨(hf x hx).1, by have := (hf x hx).2; omega⟩
    rw [impl_rows.l0, if_pos (show (i : Int) < (n : Int) by omega), hand_in.f, Option.bind_some, canon, step_nat i (by omega)]
    cases hp : p (i : Int) with
    | false =>
      rw [if_neg Bool.false_ne_true, if_neg Bool.false_ne_true]
      by_cases h : z = 0
      · rw [if_pos h]
        subst h
        exact ih k (i + 1) 0 fin (by omega) (by omega) (by omega) (by omega) hf'
      · rw [if_neg h]
        have h2 := ih k (i + 1) 0 (fin ++ [pcN (i - z, z)]) (by omega) (by omega) (by omega) (by rw [List.length_append, List.length_singleton]; omega) (by
          intro x hx
          rcases List.mem_append.1 hx with hx | hx
          · exact hf' x hx
          · rw [List.mem_singleton.1 hx]
            show 0 ≤ ((i - z : Nat) : Int) + (z : Int) ∧ ((i - z : Nat) : Int) + (z : Int) < ((i + 1 : Nat) : Int)
            omega)
        rw [openN, if_pos rfl, List.append_nil] at h2
        rw [openN, if_neg h, h2, List.map_cons, List.append_assoc]
        rfl
    | true =>
      rw [if_pos rfl, if_pos rfl]
      by_cases h : z = 0
      · subst h
        rw [openN, if_pos rfl, List.append_nil]
        have h2 := ih k (i + 1) (0 + 1) fin (by omega) (by omega) (by omega) (by omega) hf'
        rw [openN, if_neg (by omega)] at h2
        have e : (⟨(i : Int), 1, false⟩ : S47) = pcN (i + 1 - (0 + 1), 0 + 1) := by
          unfold pcN
          rw [show i + 1 - (0 + 1) = i by omega]
          rfl
        rw [← e] at h2
        have hw : wrap64 ((fin.length : Int) - 1) = (fin.length : Int) - 1 := IntWalk.wrap64_in _ (by omega)
        rw [hw]
        by_cases h0 : (fin.length : Int) - 1 ≥ 0
        · have hm : rd_T47 fin ((fin.length : Int) - 1) ∈ fin := by
            rw [show (fin.length : Int) - 1 = ((fin.length - 1 : Nat) : Int) by omega, rdP47_nat _ _ (by omega)]
            exact List.getElem_mem _
          have hx := hf _ hm
          rw [if_pos h0, if_pos (show (0 : Int) ≤ (fin.length : Int) - 1 by omega), if_pos (show (fin.length : Int) - 1 < (fin.length : Int) by omega), IntWalk.wrap64_in (_ + _) (by omega), if_neg (by omega), if_pos (show fin.length < 5864062014805 by omega)]
          exact h2
        · rw [if_neg h0, if_pos (show fin.length < 5864062014805 by omega)]
          exact h2
      · have hlen : ((fin ++ openN i z).length : Int) = (fin.length : Int) + 1 := by
          rw [openN, if_neg h, List.length_append, List.length_singleton]; omega
        have hw : wrap64 (((fin ++ openN i z).length : Int) - 1) = (fin.length : Int) := by
          rw [hlen, IntWalk.wrap64_in _ (by omega)]; omega
        have hr : rd_T47 (fin ++ openN i z) (fin.length : Int) = pcN (i - z, z) := by
          rw [openN, if_neg h]; exact rdP_last fin _
        have he : wrap64 ((pcN (i - z, z)).f0 + (pcN (i - z, z)).f1) = (i : Int) := by
          show wrap64 (((i - z : Nat) : Int) + (z : Int)) = (i : Int)
          rw [IntWalk.wrap64_in _ (by omega)]; omega
        rw [hw, hr, he, if_pos (show (fin.length : Int) ≥ 0 by omega), if_pos (show (0 : Int) ≤ (fin.length : Int) by omega), if_pos (show (fin.length : Int) < ((fin ++ openN i z).length : Int) by omega), if_pos rfl]
        have h2 := ih k (i + 1) (z + 1) fin (by omega) (by omega) (by omega) (by omega) hf'
        rw [openN, if_neg (by omega)] at h2
        have e : (⟨(pcN (i - z, z)).f0, wrap64 ((pcN (i - z, z)).f1 + 1), (pcN (i - z, z)).f2⟩ : S47) = pcN (i + 1 - (z + 1), z + 1) := by
          show (⟨((i - z : Nat) : Int), wrap64 ((z : Int) + 1), false⟩ : S47) = _
          unfold pcN
          rw [step_nat z (by omega), show i + 1 - (z + 1) = i - z by omega]
        rw [e, Int.toNat_natCast]
        have es : (fin ++ openN i z).set fin.length (pcN (i + 1 - (z + 1), z + 1)) = fin ++ [pcN (i + 1 - (z + 1), z + 1)] := by
          rw [openN, if_neg h, List.set_append_right _ _ (Nat.le_refl _), Nat.sub_self]
          rfl
        rw [es]
        exact h2

theorem rows_ok (p : Int → Bool) (n : Nat) (hn : n ≤ 60) (k : Nat) (hk : n < k) : impl_rows.f p k (n : Int) = some ((canon (fun j => p (j : Int)) n 0 0).map pcN) := by
  have h := rows_l0 p n hn n k 0 0 [] (by omega) hk (by omega) (by simp) (by simp)
  rw [openN, if_pos rfl] at h
  exact h

theorem canon_bound (h : Nat → Bool) : ∀ (d i z : Nat), z ≤ i → ∀ q ∈ canon h d i z, i - z ≤ q.1 ∧ 1 ≤ q.2 ∧ q.1 + q.2 ≤ i + d := by
  intro d
  induction d with
  | zero =>
    intro i z hz q hq
    rw [canon] at hq
    by_cases h0 : z = 0
    · rw [if_pos h0] at hq; cases hq
    · rw [if_neg h0] at hq
      rw [List.mem_singleton.1 hq]
      show i - z ≤ i - z ∧ 1 ≤ z ∧ i - z + z ≤ i + 0
      omega
  | succ d ih =>
    intro i z hz q hq
    rw [canon] at hq
    by_cases h1 : h i = true
    · rw [if_pos h1] at hq
      have := ih (i + 1) (z + 1) (by omega) q hq
      omega
    · rw [if_neg h1] at hq
      by_cases h0 : z = 0
      · rw [if_pos h0] at hq
        have := ih (i + 1) 0 (by omega) q hq
        omega
      · rw [if_neg h0] at hq
        rcases List.mem_cons.1 hq with rfl | hq
        · show i - z ≤ i - z ∧ 1 ≤ z ∧ i - z + z ≤ i + (d + 1)
          omega
        · have := ih (i + 1) 0 (by omega) q hq
          omega

theorem canon_len (h : Nat → Bool) : ∀ (d i z : Nat), (canon h d i z).length ≤ d + 1 := by
  intro d
  induction d with
  | zero => intro i z; rw [canon]; by_cases h0 : z = 0 <;> simp [h0]
  | succ d ih =>
    intro i z
    rw [canon]
    by_cases h1 : h i = true
    · rw [if_pos h1]; have := ih (i + 1) (z + 1); omega
    · rw [if_neg h1]
      by_cases h0 : z = 0
      · rw [if_pos h0]; have := ih (i + 1) 0; omega
      · rw [if_neg h0, List.length_cons]; have := ih (i + 1) 0; omega

/-- Setting More, piece by piece. -/
def setM (n : Int) (x : S47) : S47 := ⟨x.f0, x.f1, decide (wrap64 (x.f0 + x.f1) < n)⟩
theorem setMore_l0 (n : Int) (l : List S47) (hl : l.length ≤ 2000000) : ∀ (d k i : Nat) (o : List S47), i + d = l.length → d < k → o.length = l.length → (∀ j, j < i → o[j]? = (l.map (setM n))[j]?) → (∀ j, i ≤ j → o[j]? = l[j]?) → impl_HolesOf.l0 k n o (l.length : Int) (i : Int) = some (l.map (setM n)) := by
  intro d
  induction d with
  | zero =>
    intro k i o hi hk ho hj hj2
    obtain ⟨k, rfl⟩ : ∃ m, k = m + 1 := ⟨k - 1, by omega⟩
    rw [impl_HolesOf.l0, if_neg (by omega)]
    congr 1
    apply List.ext_getElem?
    intro j
    by_cases h : j < l.length
    · exact hj j (by omega)
    · rw [List.getElem?_eq_none (by omega), List.getElem?_eq_none (by rw [List.length_map]; omega)]
  | succ d ih =>
    intro k i o hi hk ho hj hj2
    obtain ⟨k, rfl⟩ : ∃ m, k = m + 1 := ⟨k - 1, by omega⟩
    have hio : i < o.length := by omega
    have hil : i < l.length := by omega
    have hr : rd_T47 o (i : Int) = l[i] := by
      rw [rdP47_nat o i hio]
      have := hj2 i (by omega)
      rw [List.getElem?_eq_getElem hio, List.getElem?_eq_getElem hil] at this
      exact Option.some.inj this
    rw [impl_HolesOf.l0, if_pos (show (i : Int) < (l.length : Int) by omega), if_pos (by omega), if_pos (by omega), hr, step_nat i (by omega), Int.toNat_natCast]
    refine ih k (i + 1) _ (by omega) (by omega) (by rw [List.length_set]; exact ho) ?_ ?_
    · intro j hji
      by_cases e : i = j
      · subst e
        rw [List.getElem?_set_self hio, List.getElem?_map, List.getElem?_eq_getElem hil]
        rfl
      · rw [List.getElem?_set_ne e]
        exact hj j (by omega)
    · intro j hji
      rw [List.getElem?_set_ne (by omega)]
      exact hj2 j (by omega)

def holeH (l : List S47) (j : Nat) : Bool := !(l.any (hand_covP (j : Int)))
def holesM (l : List S47) (n : Int) : List S47 := if okP l = true ∧ 1 ≤ n ∧ n ≤ 60 then (canon (holeH l) n.toNat 0 0).map (pcM n) else []

theorem implHoles_ok (l : List S47) (n : Int) (k : Nat) (hk : 100 ≤ k) : impl_HolesOf.f k l n = some (holesM l n) := by
  obtain ⟨k, rfl⟩ : ∃ m, k = m + 1 := ⟨k - 1, by omega⟩
  unfold impl_HolesOf.f holesM
  rw [implVP_val, Option.bind_some]
  by_cases h1 : okP l = true
  · rw [if_pos h1, within_val, Option.bind_some]
    by_cases h2 : 1 ≤ n ∧ n ≤ 60
    · rw [decide_eq_true h2, if_pos ⟨h1, h2⟩, Bool.not_true, impl_HolesOf.j0, if_neg Bool.false_ne_true]
      obtain ⟨m, rfl⟩ := Int.eq_ofNat_of_zero_le (show 0 ≤ n by omega)
      rw [Int.toNat_natCast]
      have hr := rows_ok (fun i => !(l.any (hand_covP i))) m (by omega) k (by omega)
      unfold hand_rows_Holes.f
      rw [hr, Option.bind_some]
      have hb := canon_bound (holeH l) m 0 0 (by omega)
      have hl := canon_len (holeH l) m 0 0
      show impl_HolesOf.l0 k (m : Int) ((canon (holeH l) m 0 0).map pcN) (((canon (holeH l) m 0 0).map pcN).length : Int) 0 = _
      have hs := setMore_l0 (m : Int) ((canon (holeH l) m 0 0).map pcN) (by rw [List.length_map]; omega) ((canon (holeH l) m 0 0).map pcN).length k 0 _ (by omega) (by rw [List.length_map]; omega) rfl (fun j hj => absurd hj (Nat.not_lt_zero _)) (fun j _ => rfl)
      rw [show ((0 : Nat) : Int) = 0 from rfl] at hs
      rw [hs, List.map_map]
      congr 1
      apply List.map_congr_left
      intro q hq
      have hq' := hb q hq
      show setM (m : Int) (pcN q) = pcM (m : Int) q
      unfold setM pcM pcN
      show (⟨(q.1 : Int), (q.2 : Int), decide (wrap64 ((q.1 : Int) + (q.2 : Int)) < (m : Int))⟩ : S47) = _
      rw [IntWalk.wrap64_in _ (by omega)]
    · rw [decide_eq_false h2, if_neg (fun h => h2 h.2), Bool.not_false, impl_HolesOf.j0, if_pos rfl]
  · rw [if_neg h1, if_neg (fun h => h1 h.1), impl_HolesOf.j0, if_pos rfl]

theorem endM_true (l : List S47) (h : (endM l).2 = true) : okP l = true ∧ (endM l).1 ≤ 60 := by
  by_cases hok : okP l = true
  · refine ⟨hok, ?_⟩
    unfold endM
    rw [if_pos hok]
    cases hs : scanE l (-1) with
    | none => exact (by decide : (-1 : Int) ≤ 60)
    | some e =>
      have he : e ≤ 60 := by
        obtain ⟨_, _, g⟩ := scanE_facts l (-1) e (okP_pos l hok) hs
        rcases g with g | ⟨x, hx, _, g⟩
        · omega
        · unfold okP at hok
          rw [Bool.and_eq_true, List.all_eq_true] at hok
          have := sE_pos x (hok.1 x hx)
          omega
      rw [finI]
      by_cases h0 : e ≥ 0
      · rw [if_pos h0]
        by_cases h1 : l.any (hand_endP e) = true
        · rw [if_pos h1]; exact (by decide : (-1 : Int) ≤ 60)
        · rw [if_neg h1]; exact he
      · rw [if_neg h0]; exact he
  · unfold endM at h
    rw [if_neg hok] at h
    cases h

def wholeM (l : List S47) : Bool := if (endM l).2 = true then (if (endM l).1 ≥ 1 then (((holesM l (endM l).1).length : Int) == 0) else false) else false

theorem implWhole_ok (l : List S47) (hl : l.length ≤ 2000000) (k : Nat) (hk : 100 + l.length ≤ k) : impl_IsWhole.f k l = some (wholeM l) := by
  unfold impl_IsWhole.f wholeM
  rw [implEnd_ok l hl k (by omega), Option.bind_some]
  by_cases h : (endM l).2 = true
  · rw [if_pos h, if_pos h]
    by_cases h1 : (endM l).1 ≥ 1
    · rw [if_pos h1, if_pos h1, implHoles_ok l _ k (by omega), Option.bind_some]
    · rw [if_neg h1, if_neg h1]
  · rw [if_neg h, if_neg h]

theorem canon_sep (h : Nat → Bool) : ∀ (d i z : Nat), z ≤ i → (canon h d i z).Pairwise (fun a b => a.1 + a.2 < b.1) := by
  intro d
  induction d with
  | zero =>
    intro i z hz
    rw [canon]
    by_cases h0 : z = 0
    · rw [if_pos h0]; exact List.Pairwise.nil
    · rw [if_neg h0]; exact List.pairwise_singleton _ _
  | succ d ih =>
    intro i z hz
    rw [canon]
    by_cases h1 : h i = true
    · rw [if_pos h1]; exact ih (i + 1) (z + 1) (by omega)
    · rw [if_neg h1]
      by_cases h0 : z = 0
      · rw [if_pos h0]; exact ih (i + 1) 0 (by omega)
      · rw [if_neg h0, List.pairwise_cons]
        refine ⟨fun q hq => ?_, ih (i + 1) 0 (by omega)⟩
        have := canon_bound h d (i + 1) 0 (by omega) q hq
        show i - z + z < q.1
        omega

theorem canon_full (h : Nat → Bool) : ∀ (d i z : Nat), z ≤ i → ∀ j, ((i - z ≤ j ∧ j < i) ∨ (i ≤ j ∧ j < i + d ∧ h j = true)) → ∃ q ∈ canon h d i z, q.1 ≤ j ∧ j < q.1 + q.2 := by
  intro d
  induction d with
  | zero =>
    intro i z hz j hj
    rw [canon, if_neg (by omega)]
    exact ⟨_, List.mem_singleton.2 rfl, (by show i - z ≤ j; omega), (by show j < i - z + z; omega)⟩
  | succ d ih =>
    intro i z hz j hj
    rw [canon]
    by_cases h1 : h i = true
    · rw [if_pos h1]
      refine ih (i + 1) (z + 1) (by omega) j ?_
      rcases hj with hj | ⟨h2, h3, h4⟩
      · exact .inl ⟨by omega, by omega⟩
      · by_cases e : j = i
        · exact .inl ⟨by omega, by omega⟩
        · exact .inr ⟨by omega, by omega, h4⟩
    · rw [if_neg h1]
      have hne : ∀ (h2 : i ≤ j) (h4 : h j = true), i + 1 ≤ j := fun h2 h4 => by
        by_cases e : j = i
        · rw [e] at h4; exact absurd h4 h1
        · omega
      by_cases h0 : z = 0
      · rw [if_pos h0]
        refine ih (i + 1) 0 (by omega) j ?_
        rcases hj with hj | ⟨h2, h3, h4⟩
        · omega
        · exact .inr ⟨hne h2 h4, by omega, h4⟩
      · rw [if_neg h0]
        rcases hj with hj | ⟨h2, h3, h4⟩
        · exact ⟨_, List.mem_cons_self .., (by show i - z ≤ j; omega), (by show j < i - z + z; omega)⟩
        · obtain ⟨q, hq, g⟩ := ih (i + 1) 0 (by omega) j (.inr ⟨hne h2 h4, by omega, h4⟩)
          exact ⟨q, List.mem_cons_of_mem _ hq, g⟩

theorem canon_nil (h : Nat → Bool) : ∀ (d i : Nat), (∀ j, i ≤ j → j < i + d → h j = false) → canon h d i 0 = [] := by
  intro d
  induction d with
  | zero => intro i _; rw [canon, if_pos rfl]
  | succ d ih =>
    intro i hj
    rw [canon, if_neg (by rw [hj i (by omega) (by omega)]; decide), if_pos rfl]
    exact ih (i + 1) (fun j h1 h2 => hj j (by omega) (by omega))

theorem equalPieces_l0 (a : List S47) (hl : a.length ≤ 2000000) : ∀ (d k i : Nat), i + d = a.length → d < k → laws_equalPieces.l0 k a a (i : Int) = some true := by
  intro d
  induction d with
  | zero =>
    intro k i hi hk
    obtain ⟨k, rfl⟩ : ∃ m, k = m + 1 := ⟨k - 1, by omega⟩
    rw [laws_equalPieces.l0, if_neg (by omega)]
  | succ d ih =>
    intro k i hi hk
    obtain ⟨k, rfl⟩ : ∃ m, k = m + 1 := ⟨k - 1, by omega⟩
    rw [laws_equalPieces.l0, if_pos (by omega), if_pos (by omega), if_pos (by omega), step_nat i (by omega), ih k (i + 1) (by omega) (by omega), beq_self_eq_true, beq_self_eq_true, beq_self_eq_true]
    rfl

theorem equalPieces_self (a : List S47) (hl : a.length ≤ 2000000) (k : Nat) (hk : a.length < k) : laws_equalPieces.f k a a = some true := by
  unfold laws_equalPieces.f
  rw [if_pos rfl]
  exact equalPieces_l0 a hl a.length k 0 (by omega) hk

theorem xor64_range (a b : Int) (ha : 0 ≤ a) (ha' : a < 1073741824) (hb : 0 ≤ b) (hb' : b < 1073741824) :
    0 ≤ Go.bits .xor .i64 a b ∧ Go.bits .xor .i64 a b < 1073741824 := by
  obtain ⟨m, rfl⟩ := Int.eq_ofNat_of_zero_le ha
  obtain ⟨n, rfl⟩ := Int.eq_ofNat_of_zero_le hb
  have hm : m < 2 ^ 30 := by omega
  have hn : n < 2 ^ 30 := by omega
  have hx : m ^^^ n < 2 ^ 30 := Nat.xor_lt_two_pow hm hn
  have hm' : m % 2 ^ IntKind.i64.bits = m := Nat.mod_eq_of_lt (Nat.lt_of_lt_of_le hm (by decide))
  have hn' : n % 2 ^ IntKind.i64.bits = n := Nat.mod_eq_of_lt (Nat.lt_of_lt_of_le hn (by decide))
  simp only [Go.bits, BitVec.ofInt_natCast, BitVec.toNat_xor, BitVec.toNat_ofNat, hm', hn']
  rw [IntWalk.i64_in ((m ^^^ n : Nat) : Int) (by omega)]
  omega

theorem rd_range (l : List Int) (hl : ∀ x ∈ l, 0 ≤ x ∧ x ≤ 255) (i : Int) : 0 ≤ rd l i ∧ rd l i ≤ 255 := by
  unfold rd
  rw [List.getD_eq_getElem?_getD]
  cases h : l[i.toNat]? with
  | none => simp
  | some v => exact hl v (List.mem_of_getElem? h)

theorem tmod_range (a n : Int) (ha : 0 ≤ a) (hn : 1 ≤ n) : 0 ≤ Int.tmod a n ∧ Int.tmod a n < n :=
  ⟨Int.tmod_nonneg n ha, Int.tmod_lt_of_pos a (by omega)⟩

theorem pick_ok (l : List Int) (hl : ∀ x ∈ l, 0 ≤ x ∧ x ≤ 255) (hn : l.length ≤ 2000) (k : Nat) (p n : Int) (hp : 0 ≤ p) (hp' : p ≤ 1000000) :
    ∃ v, spec_reader_pick.f (k + 1) l p n = some (v, p + 1) ∧ 0 ≤ v ∧ (1 ≤ n → v < n) := by
  have hw : wrap64 (p + 1) = p + 1 := IntWalk.wrap64_in _ (by omega)
  unfold spec_reader_pick.f
  rw [hw]
  by_cases h1 : n < 1
  · rw [if_pos h1]
    exact ⟨0, by simp [spec_reader_pick.j0], by omega, fun h => by omega⟩
  · rw [if_neg h1]
    by_cases h2 : l.length = 0
    · exact ⟨0, by simp [spec_reader_pick.j0, h2], by omega, fun h => by omega⟩
    · have hb : ((l.length : Int) == 0) = false := beq_eq_false_iff_ne.mpr (by omega)
      have hw1 : wrap64 (p + 1 - 1) = p := (IntWalk.wrap64_in (p + 1 - 1) (by omega)).trans (by omega)
      have hn0 : n ≠ 0 := by omega
      have hl0 : (l.length : Int) ≠ 0 := by omega
      simp only [spec_reader_pick.j0, hb, hw1, Bool.false_eq_true, if_false, hn0, hl0]
      by_cases h3 : p < (l.length : Int)
      · rw [if_pos h3, if_pos hp]
        have hr := rd_range l hl p
        rw [IntWalk.wrap64_in (rd l p) (by omega)]
        have ht := tmod_range (rd l p) n hr.1 (by omega)
        exact ⟨_, rfl, ht.1, fun _ => ht.2⟩
      · rw [if_neg h3]
        have hm1 := tmod_range p (l.length : Int) hp (by omega)
        rw [if_pos hm1.1, if_pos hm1.2]
        have hw7 : wrap64 (p * 7) = p * 7 := IntWalk.wrap64_in _ (by omega)
        have hw73 : wrap64 (p * 7 + 3) = p * 7 + 3 := IntWalk.wrap64_in _ (by omega)
        rw [hw7, hw73]
        have hm2 := tmod_range (p * 7 + 3) (l.length : Int) (by omega) (by omega)
        rw [if_pos hm2.1, if_pos hm2.2]
        have hr1 := rd_range l hl (Int.tmod p (l.length : Int))
        have hr2 := rd_range l hl (Int.tmod (p * 7 + 3) (l.length : Int))
        generalize rd l (Int.tmod p (l.length : Int)) = r1 at hr1 ⊢
        generalize rd l (Int.tmod (p * 7 + 3) (l.length : Int)) = r2 at hr2 ⊢
        have hq : 0 ≤ Int.tdiv p (l.length : Int) ∧ Int.tdiv p (l.length : Int) ≤ p := by
          rw [Int.tdiv_eq_ediv_of_nonneg hp]
          exact ⟨Int.ediv_nonneg hp (by omega), Int.ediv_le_self _ hp⟩
        generalize Int.tdiv p (l.length : Int) = q at hq ⊢
        simp (disch := omega) only [IntWalk.wrap64_in]
        have hX : 0 ≤ r1 * 131 + r2 * 1117 + p * 29 + q * 53 ∧ r1 * 131 + r2 * 1117 + p * 29 + q * 53 < 1073741824 := by omega
        generalize r1 * 131 + r2 * 1117 + p * 29 + q * 53 = X at hX ⊢
        have hd : 0 ≤ Int.tdiv X 64 ∧ Int.tdiv X 64 < 1073741824 := by
          rw [Int.tdiv_eq_ediv_of_nonneg hX.1]; omega
        rw [IntWalk.wrap64_in (Int.tdiv X 64) (by omega)]
        have hx := xor64_range X (Int.tdiv X 64) hX.1 hX.2 hd.1 hd.2
        have ht := tmod_range (Go.bits .xor .i64 X (Int.tdiv X 64)) n hx.1 (by omega)
        exact ⟨_, rfl, ht.1, fun _ => ht.2⟩

theorem reader_ok (l0 : List Int) (hw : ∀ x ∈ l0, (Lit.int .u8 x).wf = true) :
    ∃ l, spec_newReader.f l0 = some (l, 0) ∧ (∀ x ∈ l, 0 ≤ x ∧ x ≤ 255) ∧ l.length ≤ 2000 := by
  have hb : ∀ x ∈ l0, 0 ≤ x ∧ x ≤ 255 := by
    intro x hx
    have h := hw x hx
    simp [Lit.wf, IntKind.min, IntKind.max, IntKind.signed, IntKind.bits] at h
    omega
  unfold spec_newReader.f
  by_cases h : (l0.length : Int) > 2000
  · rw [if_pos h, if_pos (by omega)]
    exact ⟨_, rfl, fun x hx => hb x (List.mem_of_mem_take hx), by rw [List.length_take]; omega⟩
  · rw [if_neg h]
    exact ⟨_, rfl, hb, by omega⟩

theorem one_ok (l : List Int) (hl : ∀ x ∈ l, 0 ≤ x ∧ x ≤ 255) (hn : l.length ≤ 2000) (k : Nat) (p : Int) (xs : List Int) (hp : 0 ≤ p) (hp' : p ≤ 1000000) (hx : 1 ≤ xs.length) :
    ∃ v, spec_reader_one.f (k + 1) l p xs = some (v, p + 1) ∧ v ∈ xs := by
  obtain ⟨v, hv, h0, h1⟩ := pick_ok l hl hn k p (xs.length : Int) hp hp'
  have h2 := h1 (by omega)
  unfold spec_reader_one.f
  rw [hv]
  simp only [Option.bind_some]
  rw [if_pos h0, if_pos h2]
  refine ⟨_, rfl, ?_⟩
  unfold rd
  have h3 : v.toNat < xs.length := by omega
  rw [List.getD_eq_getElem?_getD, List.getElem?_eq_getElem h3]
  exact List.getElem_mem h3

theorem cut_part (room unit : Int) (h1 : 1 ≤ unit) (h2 : unit ≤ 8) (h3 : unit ≤ room) (h4 : room ≤ 60) :
    ∃ p, wrap64 ((wrap64 (Int.tdiv room unit)) * unit) = p ∧ 1 ≤ p ∧ p ≤ room := by
  have e : Int.tdiv room unit = room / unit := Int.tdiv_eq_ediv_of_nonneg (by omega)
  have d0 : 0 ≤ room / unit := Int.ediv_nonneg (by omega) (by omega)
  have d1 : 1 ≤ room / unit := (Int.le_ediv_iff_mul_le (by omega)).2 (by omega)
  have d2 : room / unit ≤ room := Int.ediv_le_self _ (by omega)
  have m1 : room / unit * unit ≤ room := Int.ediv_mul_le _ (by omega)
  have m0 : 1 * 1 ≤ room / unit * unit := Int.mul_le_mul d1 h1 (by omega) (by omega)
  rw [e, IntWalk.wrap64_in (room / unit) (by omega)]
  generalize room / unit * unit = p at m0 m1
  exact ⟨p, IntWalk.wrap64_in p (by omega), by omega, by omega⟩

theorem scut_loop (n room unit : Int) (hn : 1 ≤ n) (hn' : n ≤ 60) (h1 : 1 ≤ unit) (h2 : unit ≤ 8) (h3 : unit ≤ room) (h4 : room ≤ 60) :
    ∀ (d k' : Nat) (at' : Int) (o : List S47), 0 ≤ at' → at' < n → n - at' ≤ d → (o.length : Int) ≤ at' → d + 2 < k' →
    ∃ r, spec_CutLength.l0 k' n room unit o at' = some r ∧ r.1.length ≤ 20 := by
  obtain ⟨p, hp, hp1, hp2⟩ := cut_part room unit h1 h2 h3 h4
  intro d
  induction d with
  | zero => intro k' at' o h5 h6 h7; omega
  | succ d ih =>
    intro k' at' o h5 h6 h7 h8 hk'
    obtain ⟨k', rfl⟩ : ∃ m, k' = m + 1 := ⟨k' - 1, by omega⟩
    have hw : wrap64 (n - at') = n - at' := IntWalk.wrap64_in _ (by omega)
    rw [spec_CutLength.l0, hp, hw, if_pos h6]
    by_cases h9 : n - at' > room
    · have hq : wrap64 (at' + p) = at' + p := IntWalk.wrap64_in _ (by omega)
      rw [if_pos h9, if_neg (show ¬ unit = 0 by omega), if_pos (show o.length < 5864062014805 by omega), hq, decide_eq_true (show at' + p < n by omega)]
      refine ih k' (at' + p) _ (by omega) (by omega) (by omega) ?_ (by omega)
      rw [List.length_append]; simp only [List.length_cons, List.length_nil]; omega
    · have hq : wrap64 (at' + (n - at')) = n := (IntWalk.wrap64_in _ (by omega)).trans (by omega)
      rw [if_neg h9, if_pos (show o.length < 5864062014805 by omega), hq, decide_eq_false (show ¬ n < n by omega)]
      obtain ⟨k', rfl⟩ : ∃ m, k' = m + 1 := ⟨k' - 1, by omega⟩
      rw [spec_CutLength.l0, if_neg (show ¬ n < n by omega)]
      generalize o ++ [(⟨at', n - at', false⟩ : S47)] = y
      by_cases h10 : (y.length : Int) > 20
      · rw [if_pos h10]; exact ⟨_, rfl, by simp⟩
      · rw [if_neg h10]; exact ⟨_, rfl, by show y.length ≤ 20; omega⟩

theorem scut_ok (a b c : Int) (k : Nat) (hk : 100 ≤ k) : ∃ r, spec_CutLength.f k a b c = some r ∧ r.1.length ≤ 20 := by
  by_cases h : (1 ≤ a ∧ a ≤ 60) ∧ (1 ≤ c ∧ c ≤ 8) ∧ (c ≤ b ∧ b ≤ 60)
  · obtain ⟨k, rfl⟩ : ∃ m, k = m + 1 := ⟨k - 1, by omega⟩
    obtain ⟨r, e1, e2⟩ := scut_loop a b c h.1.1 h.1.2 h.2.1.1 h.2.1.2 h.2.2.1 h.2.2.2 60 k 0 [] (by omega) (by omega) (by omega) (by simp) (by omega)
    refine ⟨r, ?_, e2⟩
    unfold spec_CutLength.f
    rw [inRange_val, inRange_val, inRange_val, Option.bind_some, decide_eq_true h.1, if_pos rfl, Option.bind_some, decide_eq_true h.2.1, if_pos rfl, Option.bind_some, decide_eq_true h.2.2]
    simp only [spec_CutLength.j0, Bool.not_true, Bool.false_eq_true, if_false]
    exact e1
  · refine ⟨([], false), ?_, by simp⟩
    obtain ⟨k, rfl⟩ : ∃ m, k = m + 1 := ⟨k - 1, by omega⟩
    unfold spec_CutLength.f
    rw [inRange_val, inRange_val, inRange_val]
    simp only [Option.bind_some]
    by_cases q1 : 1 ≤ a ∧ a ≤ 60
    · rw [decide_eq_true q1, if_pos rfl]
      by_cases q2 : 1 ≤ c ∧ c ≤ 8
      · rw [decide_eq_true q2, if_pos rfl, decide_eq_false (fun q3 => h ⟨q1, q2, q3⟩)]
        simp only [spec_CutLength.j0, Bool.not_false, if_true]
      · rw [decide_eq_false q2, if_neg Bool.false_ne_true]
        simp only [spec_CutLength.j0, if_true]
    · rw [decide_eq_false q1, if_neg Bool.false_ne_true]
      simp only [spec_CutLength.j0, if_true]

/-- Pieces one behind the other up to n, all but the last with More. -/
def chain (n room unit : Int) : Int → List S47 → Prop
  | _, [] => False
  | a, x :: t => x.f0 = a ∧ 1 ≤ x.f1 ∧ x.f1 ≤ room ∧ ((t = [] ∧ x.f2 = false ∧ a + x.f1 = n) ∨ (t ≠ [] ∧ x.f2 = true ∧ Int.tmod x.f1 unit = 0 ∧ a + x.f1 < n ∧ chain n room unit (a + x.f1) t))

theorem cut_part2 (room unit : Int) (h1 : 1 ≤ unit) (h2 : unit ≤ 8) (h3 : unit ≤ room) (h4 : room ≤ 60) :
    ∃ p, wrap64 ((wrap64 (Int.tdiv room unit)) * unit) = p ∧ 1 ≤ p ∧ p ≤ room ∧ Int.tmod p unit = 0 := by
  have e : Int.tdiv room unit = room / unit := Int.tdiv_eq_ediv_of_nonneg (by omega)
  have d0 : 0 ≤ room / unit := Int.ediv_nonneg (by omega) (by omega)
  have d1 : 1 ≤ room / unit := (Int.le_ediv_iff_mul_le (by omega)).2 (by omega)
  have d2 : room / unit ≤ room := Int.ediv_le_self _ (by omega)
  have m1 : room / unit * unit ≤ room := Int.ediv_mul_le _ (by omega)
  have m0 : 1 * 1 ≤ room / unit * unit := Int.mul_le_mul d1 h1 (by omega) (by omega)
  have m2 : Int.tmod (room / unit * unit) unit = 0 := Int.mul_tmod_left ..
  rw [e, IntWalk.wrap64_in (room / unit) (by omega)]
  generalize room / unit * unit = p at m0 m1 m2
  exact ⟨p, IntWalk.wrap64_in p (by omega), by omega, by omega, m2⟩

theorem cut2_loop (n room unit : Int) (hn : 1 ≤ n) (hn' : n ≤ 60) (h1 : 1 ≤ unit) (h2 : unit ≤ 8) (h3 : unit ≤ room) (h4 : room ≤ 60) :
    ∀ (d k k' : Nat) (at' : Int) (o : List S47), 0 ≤ at' → at' < n → n - at' ≤ d → (o.length : Int) ≤ at' → d + 1 < k → d + 2 < k' →
    ∃ r, impl_CutLength.l0 k n room unit o at' = some r ∧ spec_CutLength.l0 k' n room unit o at' = some r ∧ r.1.length ≤ 20 ∧ (r.2 = true → ∃ t, r.1 = o ++ t ∧ chain n room unit at' t) := by
  obtain ⟨p, hp, hp1, hp2, hp3⟩ := cut_part2 room unit h1 h2 h3 h4
  intro d
  induction d with
  | zero => intro k k' at' o h5 h6 h7; omega
  | succ d ih =>
    intro k k' at' o h5 h6 h7 h8 hk hk'
    obtain ⟨k, rfl⟩ : ∃ m, k = m + 1 := ⟨k - 1, by omega⟩
    obtain ⟨k', rfl⟩ : ∃ m, k' = m + 1 := ⟨k' - 1, by omega⟩
    have hw : wrap64 (n - at') = n - at' := IntWalk.wrap64_in _ (by omega)
    rw [impl_CutLength.l0, spec_CutLength.l0, hp, hw, if_pos h6]
    by_cases h9 : n - at' > room
    · have hq : wrap64 (at' + p) = at' + p := IntWalk.wrap64_in _ (by omega)
      rw [if_pos h9, if_pos h9, if_neg (show ¬ unit = 0 by omega), if_neg (show ¬ unit = 0 by omega), if_pos (show o.length < 5864062014805 by omega), if_pos (show o.length < 5864062014805 by omega), hq, decide_eq_true (show at' + p < n by omega)]
      obtain ⟨r, e1, e2, e3, e4⟩ := ih k k' (at' + p) (o ++ [(⟨at', p, true⟩ : S47)]) (by omega) (by omega) (by omega) (by rw [List.length_append]; simp only [List.length_cons, List.length_nil]; omega) (by omega) (by omega)
      refine ⟨r, e1, e2, e3, fun h => ?_⟩
      obtain ⟨t, g1, g2⟩ := e4 h
      refine ⟨⟨at', p, true⟩ :: t, by rw [g1, List.append_assoc]; rfl, ?_⟩
      have ht : t ≠ [] := fun h => by rw [h] at g2; exact g2
      exact ⟨rfl, hp1, hp2, .inr ⟨ht, rfl, hp3, show at' + p < n by omega, g2⟩⟩
    · have hq : wrap64 (at' + (n - at')) = n := (IntWalk.wrap64_in _ (by omega)).trans (by omega)
      rw [if_neg h9, if_neg h9, if_pos (show o.length < 5864062014805 by omega), if_pos (show o.length < 5864062014805 by omega), Option.bind_some, hq, decide_eq_false (show ¬ n < n by omega)]
      obtain ⟨k', rfl⟩ : ∃ m, k' = m + 1 := ⟨k' - 1, by omega⟩
      rw [spec_CutLength.l0, if_neg (show ¬ n < n by omega)]
      have hch : chain n room unit at' [(⟨at', n - at', false⟩ : S47)] := ⟨rfl, show 1 ≤ n - at' by omega, show n - at' ≤ room by omega, .inl ⟨rfl, rfl, show at' + (n - at') = n by omega⟩⟩
      generalize hy : o ++ [(⟨at', n - at', false⟩ : S47)] = y
      by_cases h10 : (y.length : Int) > 20
      · rw [if_pos h10]; exact ⟨_, rfl, rfl, by simp, fun h => by cases h⟩
      · rw [if_neg h10]; exact ⟨_, rfl, rfl, by show y.length ≤ 20; omega, fun _ => ⟨_, hy.symm, hch⟩⟩

theorem cut2_ok (a b c : Int) : ∃ r, (∀ k, 100 ≤ k → impl_CutLength.f k a b c = some r) ∧ (∀ k, 100 ≤ k → spec_CutLength.f k a b c = some r) ∧ r.1.length ≤ 20 ∧ (r.2 = true → (1 ≤ a ∧ a ≤ 60) ∧ (1 ≤ c ∧ c ≤ 8) ∧ (c ≤ b ∧ b ≤ 60) ∧ chain a b c 0 r.1) := by
  by_cases h : (1 ≤ a ∧ a ≤ 60) ∧ (1 ≤ c ∧ c ≤ 8) ∧ (c ≤ b ∧ b ≤ 60)
  · have hr : ∀ k k', 70 ≤ k → 70 ≤ k' → ∃ r, impl_CutLength.l0 k a b c [] 0 = some r ∧ spec_CutLength.l0 k' a b c [] 0 = some r ∧ r.1.length ≤ 20 ∧ (r.2 = true → ∃ t, r.1 = [] ++ t ∧ chain a b c 0 t) := by
      intro k k' hk hk'
      exact cut2_loop a b c h.1.1 h.1.2 h.2.1.1 h.2.1.2 h.2.2.1 h.2.2.2 60 k k' 0 [] (by omega) (by omega) (by omega) (by simp) (by omega) (by omega)
    obtain ⟨r, e1, e2, e3, e4⟩ := hr 70 70 (by omega) (by omega)
    refine ⟨r, ?_, ?_, e3, fun hq => ⟨h.1, h.2.1, h.2.2, ?_⟩⟩
    · intro k hk
      obtain ⟨r', f1, f2, _⟩ := hr (k - 1) 70 (by omega) (by omega)
      rw [e2] at f2
      obtain ⟨k, rfl⟩ : ∃ m, k = m + 1 := ⟨k - 1, by omega⟩
      unfold impl_CutLength.f
      rw [within_val, within_val, within_val, Option.bind_some, decide_eq_true h.1, if_pos rfl, Option.bind_some, decide_eq_true h.2.1, if_pos rfl, Option.bind_some, decide_eq_true h.2.2]
      simp only [impl_CutLength.j0, Bool.not_true, Bool.false_eq_true, if_false]
      rw [Nat.add_sub_cancel] at f1
      rw [f1, ← f2]
    · intro k hk
      obtain ⟨r', f1, f2, _⟩ := hr 70 (k - 1) (by omega) (by omega)
      rw [e1] at f1
      obtain ⟨k, rfl⟩ : ∃ m, k = m + 1 := ⟨k - 1, by omega⟩
      unfold spec_CutLength.f
      rw [inRange_val, inRange_val, inRange_val, Option.bind_some, decide_eq_true h.1, if_pos rfl, Option.bind_some, decide_eq_true h.2.1, if_pos rfl, Option.bind_some, decide_eq_true h.2.2]
      simp only [spec_CutLength.j0, Bool.not_true, Bool.false_eq_true, if_false]
      rw [Nat.add_sub_cancel] at f2
      rw [f2, ← f1]
    · obtain ⟨t, g1, g2⟩ := e4 hq
      rw [g1, List.nil_append]
      exact g2
  · refine ⟨([], false), ?_, ?_, by simp, fun h => by cases h⟩
    · intro k hk
      obtain ⟨k, rfl⟩ : ∃ m, k = m + 1 := ⟨k - 1, by omega⟩
      unfold impl_CutLength.f
      rw [within_val, within_val, within_val]
      simp only [Option.bind_some]
      by_cases q1 : 1 ≤ a ∧ a ≤ 60
      · rw [decide_eq_true q1, if_pos rfl]
        by_cases q2 : 1 ≤ c ∧ c ≤ 8
        · rw [decide_eq_true q2, if_pos rfl, decide_eq_false (fun q3 => h ⟨q1, q2, q3⟩)]
          simp only [impl_CutLength.j0, Bool.not_false, if_true]
        · rw [decide_eq_false q2, if_neg Bool.false_ne_true]
          simp only [impl_CutLength.j0, if_true]
      · rw [decide_eq_false q1, if_neg Bool.false_ne_true]
        simp only [impl_CutLength.j0, if_true]
    · intro k hk
      obtain ⟨r, e1, e2⟩ := scut_ok a b c k hk
      obtain ⟨k, rfl⟩ : ∃ m, k = m + 1 := ⟨k - 1, by omega⟩
      unfold spec_CutLength.f
      rw [inRange_val, inRange_val, inRange_val]
      simp only [Option.bind_some]
      by_cases q1 : 1 ≤ a ∧ a ≤ 60
      · rw [decide_eq_true q1, if_pos rfl]
        by_cases q2 : 1 ≤ c ∧ c ≤ 8
        · rw [decide_eq_true q2, if_pos rfl, decide_eq_false (fun q3 => h ⟨q1, q2, q3⟩)]
          simp only [spec_CutLength.j0, Bool.not_false, if_true]
        · rw [decide_eq_false q2, if_neg Bool.false_ne_true]
          simp only [spec_CutLength.j0, if_true]
      · rw [decide_eq_false q1, if_neg Bool.false_ne_true]
        simp only [spec_CutLength.j0, if_true]

theorem okP1_of (x : S47) (h0 : 0 ≤ x.f0) (h1 : 1 ≤ x.f1) (h2 : x.f0 + x.f1 ≤ 60) : okP1 x = true := by
  unfold okP1
  rw [IntWalk.wrap64_in (60 - x.f0) (by omega), decide_eq_true (by omega), decide_eq_true (by omega)]
  rfl

/-- What the pieces of a chain are. -/
theorem chain_facts (n room unit : Int) (hn : n ≤ 60) : ∀ (t : List S47) (a : Int), 0 ≤ a → chain n room unit a t →
    (∀ x ∈ t, okP1 x = true ∧ sE x = x.f0 + x.f1 ∧ a ≤ x.f0 ∧ x.f0 + x.f1 ≤ n) ∧ scanE t (-1) = some n ∧ t.any (hand_endP n) = false ∧ (∀ j : Int, a ≤ j → j < n → t.any (hand_covP j) = true) := by
  intro t
  induction t with
  | nil => intro a _ h; exact h.elim
  | cons x t ih =>
    intro a ha h
    obtain ⟨e0, b1, b2, h⟩ := h
    have hcov : ∀ j : Int, sE x = x.f0 + x.f1 → hand_covP j x = (decide (x.f0 ≤ j) && decide (j < x.f0 + x.f1)) := fun j hs => by
      unfold hand_covP
      show (decide (x.f0 ≤ j) && decide (j < sE x)) = _
      rw [hs]
    have hend : sE x = x.f0 + x.f1 → hand_endP n x = (x.f2 && decide (n ≤ x.f0 + x.f1)) := fun hs => by
      unfold hand_endP
      show (x.f2 && decide (n ≤ sE x)) = _
      rw [hs]
    rcases h with ⟨rfl, f, en⟩ | ⟨hne, f, _, lt, hc⟩
    · have hok := okP1_of x (by omega) b1 (by omega)
      have hs := (sE_pos x hok).2.1
      refine ⟨fun y hy => ?_, ?_, ?_, fun j h1 h2 => ?_⟩
      · rw [List.mem_singleton.1 hy]
        exact ⟨hok, hs, by omega, by omega⟩
      · rw [scanE, if_neg (by rw [f]; decide), if_neg (by decide), scanE, hs, e0, en]
      · rw [List.any_cons, hend hs, f]
        rfl
      · rw [List.any_cons, hcov j hs, decide_eq_true (by omega), decide_eq_true (by omega)]
        rfl
    · obtain ⟨g1, g2, g3, g4⟩ := ih (a + x.f1) (by omega) hc
      have hok := okP1_of x (by omega) b1 (by omega)
      have hs := (sE_pos x hok).2.1
      refine ⟨fun y hy => ?_, ?_, ?_, fun j h1 h2 => ?_⟩
      · rcases List.mem_cons.1 hy with rfl | hy
        · exact ⟨hok, hs, by omega, by omega⟩
        · obtain ⟨k1, k2, k3, k4⟩ := g1 y hy
          exact ⟨k1, k2, by omega, k4⟩
      · rw [scanE, if_pos f]
        exact g2
      · rw [List.any_cons, hend hs, g3, f, decide_eq_false (by omega)]
        rfl
      · rw [List.any_cons, hcov j hs]
        by_cases hj : j < x.f0 + x.f1
        · rw [decide_eq_true (by omega), decide_eq_true hj]
          rfl
        · rw [g4 j (by omega) h2, Bool.or_true]

theorem canon_one (h : Nat → Bool) (n : Nat) (hn1 : 1 ≤ n) : ∀ (d i : Nat), (∀ j, j < n → h j = true) → (∀ j, n ≤ j → j < i + d → h j = false) → i ≤ n → n ≤ i + d → canon h d i i = [(0, n)] := by
  intro d
  induction d with
  | zero =>
    intro i h1 h2 h3 h4
    have e : i = n := by omega
    subst e
    rw [canon, if_neg (by omega), Nat.sub_self]
  | succ d ih =>
    intro i h1 h2 h3 h4
    rw [canon]
    by_cases e : i = n
    · subst e
      rw [if_neg (by rw [h2 i (by omega) (by omega)]; decide), if_neg (by omega), Nat.sub_self, canon_nil h d (i + 1) (fun j g1 g2 => h2 j (by omega) (by omega))]
    · rw [if_pos (h1 i (by omega))]
      exact ih (i + 1) h1 (fun j g1 g2 => h2 j g1 (by omega)) (by omega) (by omega)

theorem join_two (e : Int) (a b : Int) (c : Bool) (k : Nat) (hk : 2 ≤ k) : impl_JoinPieces.l0 k e [(⟨a, b, c⟩ : S47)] 1 0 = some [(⟨a, b, (wrap64 (a + b)) != e⟩ : S47)] := by
  obtain ⟨k, rfl⟩ : ∃ m, k = m + 2 := ⟨k - 2, by omega⟩
  have h1 : wrap64 ((0 : Int) + 1) = 1 := IntWalk.wrap64_in _ (by omega)
  have hr : rd_T47 [(⟨a, b, c⟩ : S47)] 0 = ⟨a, b, c⟩ := rfl
  rw [impl_JoinPieces.l0, if_pos (by omega), if_pos (by omega), if_pos (show (0 : Int) < (([(⟨a, b, c⟩ : S47)].length : Nat) : Int) by simp), hr, h1, impl_JoinPieces.l0, if_neg (by omega)]
  rfl

theorem whole_end (n : Nat) (hn1 : 1 ≤ n) (hn : n ≤ 60) (room unit : Int) (l : List S47) (hl : l.length ≤ 20) (hc : chain (n : Int) room unit 0 l) (k : Nat) (hk : 150 ≤ k) :
    endM l = ((n : Int), true) ∧ wholeM l = true ∧ holesM l (n : Int) = [] ∧ impl_JoinPieces.f k l = some [(⟨0, (n : Int), false⟩ : S47)] := by
  obtain ⟨f1, f2, f3, f4⟩ := chain_facts (n : Int) room unit (by omega) l 0 (by omega) hc
  have hok : okP l = true := by
    unfold okP
    rw [Bool.and_eq_true, List.all_eq_true]
    exact ⟨fun x hx => (f1 x hx).1, decide_eq_true hl⟩
  have hE : endM l = ((n : Int), true) := by
    unfold endM
    rw [if_pos hok, f2, finI, if_pos (by omega), if_neg (by rw [f3]; decide)]
  have hH : holesM l (n : Int) = [] := by
    unfold holesM
    rw [if_pos ⟨hok, by omega, by omega⟩, Int.toNat_natCast, canon_nil]
    · rfl
    · intro j _ hj
      show (!(l.any (hand_covP (j : Int)))) = false
      rw [f4 (j : Int) (by omega) (by omega)]
      rfl
  refine ⟨hE, ?_, hH, ?_⟩
  · unfold wholeM
    rw [hE]
    show (if true = true then (if (n : Int) ≥ 1 then (((holesM l (n : Int)).length : Int) == 0) else false) else false) = true
    rw [if_pos rfl, if_pos (by omega), hH]
    rfl
  · unfold impl_JoinPieces.f
    rw [implEnd_ok l (by omega) k (by omega), Option.bind_some, hE]
    show (if true = true then ((hand_rows_Join.f k 60 l).bind fun t181 => (impl_JoinPieces.l0 k (n : Int) t181 (t181.length : Int) 0)) else (some ([] : List (S47)))) = _
    have hrow := rows_ok (fun i => l.any (hand_covP i)) 60 (by omega) k (by omega)
    have hone := canon_one (fun j => l.any (hand_covP (j : Int))) n hn1 60 0 (fun j hj => f4 (j : Int) (by omega) (by omega)) (fun j h1 h2 => by
      rw [List.any_eq_false]
      intro x hx
      obtain ⟨g1, g2, g3, g4⟩ := f1 x hx
      unfold hand_covP
      show ¬ (decide (x.f0 ≤ (j : Int)) && decide ((j : Int) < sE x)) = true
      rw [g2, decide_eq_false (show ¬ (j : Int) < x.f0 + x.f1 by omega), Bool.and_false]
      decide) (by omega) (by omega)
    unfold hand_rows_Join.f
    rw [if_pos rfl, show (60 : Int) = ((60 : Nat) : Int) from rfl, hrow, hone, Option.bind_some]
    have hj := join_two (n : Int) 0 (n : Int) false k (by omega)
    rw [Int.zero_add, IntWalk.wrap64_in (n : Int) (by omega), bne_self_eq_false] at hj
    exact hj

theorem cutLaw_l0 (n : Nat) (hn1 : 1 ≤ n) (hn : n ≤ 60) (room unit : Int) (hu : 1 ≤ unit) (l : List S47) (hl : l.length ≤ 20) (hc : chain (n : Int) room unit 0 l) :
    ∀ (t : List S47) (k i : Nat) (a : Int), l.drop i = t → chain (n : Int) room unit a t → t.length + 200 ≤ k → laws_FnCutLength.l0 k (n : Int) room unit l (i : Int) = some true := by
  have hend : ∀ k i : Nat, 190 ≤ k → l.length ≤ i → laws_FnCutLength.l0 k (n : Int) room unit l (i : Int) = some true := by
    intro k i hk hi
    obtain ⟨k, rfl⟩ : ∃ m, k = m + 1 := ⟨k - 1, by omega⟩
    obtain ⟨w1, w2, w3, w4⟩ := whole_end n hn1 hn room unit l hl hc k (by omega)
    rw [laws_FnCutLength.l0, if_neg (show ¬ (i : Int) < (l.length : Int) by omega), implEnd_ok l (by omega) k (by omega), Option.bind_some, w1, if_pos rfl, if_pos rfl, implWhole_ok l (by omega) k (by omega), Option.bind_some, w2, if_pos rfl, implHoles_ok l (n : Int) k (by omega), Option.bind_some, w3, if_pos (by rfl), w4, Option.bind_some, equalPieces_self _ (by simp) k (by simp; omega), Option.bind_some]
  intro t
  induction t with
  | nil => intro k i a _ h; exact h.elim
  | cons x t ih =>
    intro k i a hd h hk
    obtain ⟨k, rfl⟩ : ∃ m, k = m + 1 := ⟨k - 1, by omega⟩
    obtain ⟨_, b1, b2, h⟩ := h
    have hlen : t.length + 1 + i = l.length := by
      have := congrArg List.length hd
      rw [List.length_drop, List.length_cons] at this
      omega
    have hil : i < l.length := by omega
    have hx : l[i] = x := by
      have := List.drop_eq_getElem_cons hil
      rw [hd] at this
      exact (List.cons.inj this).1.symm
    have hd' : l.drop (i + 1) = t := by
      have := List.drop_eq_getElem_cons hil
      rw [hd] at this
      exact (List.cons.inj this).2.symm
    rw [List.length_cons] at hk
    rw [laws_FnCutLength.l0, if_pos (show (i : Int) < (l.length : Int) by omega), if_pos (by omega), rdP47_nat l i hil, hx, step_nat i (by omega), if_neg (by omega)]
    rcases h with ⟨rfl, f, _⟩ | ⟨hne, f, ht, _, hc'⟩
    · rw [List.length_nil] at hlen
      rw [f, decide_eq_false (by omega), bne_self_eq_false, if_neg Bool.false_ne_true, if_neg Bool.false_ne_true]
      exact hend k (i + 1) (by omega) (by omega)
    · have ht0 : 0 < t.length := List.length_pos_iff.2 hne
      rw [f, decide_eq_true (by omega), bne_self_eq_false, if_neg Bool.false_ne_true, if_pos rfl, if_neg (show ¬ unit = 0 by omega), if_pos ht]
      exact ih k (i + 1) _ hd' hc' (by omega)

theorem FnCutLength : laws_FnCutLength.Pure := by
  intro l0 _ _ hw
  suffices H : ∀ k, 499 ≤ k → laws_FnCutLength.f (k + 1) l0 = some true from ⟨499 + 1, H 499 (Nat.le_refl _)⟩
  intro k hk
  unfold laws_FnCutLength.f
  by_cases hc : (l0.length : Int) > 1048576
  · rw [if_pos hc]
  · obtain ⟨b, hr, hb, hn⟩ := reader_ok l0 hw
    obtain ⟨u, hu, _⟩ := one_ok b hb hn k 0 [20, 12, 30, 8, 1, 60, 61, 0] (by omega) (by omega) (by simp)
    obtain ⟨v, hv, _⟩ := one_ok b hb hn k (0 + 1) [4, 8, 6, 3, 12, 60, 0] (by omega) (by omega) (by simp)
    obtain ⟨w, hw', _⟩ := one_ok b hb hn k (0 + 1 + 1) [1, 2, 4, 8, 3, 9, 0] (by omega) (by omega) (by simp)
    have hd : spec_DrawCutLength.f (k + 1) l0 = some (u, v, w) := by
      unfold spec_DrawCutLength.f
      simp only [hr, hu, hv, hw', Option.bind_some]
    obtain ⟨r, hi, hs, hrl, hch⟩ := cut2_ok u v w
    rw [if_neg hc, hd, Option.bind_some]
    show ((impl_CutLength.f (k + 1) u v w).bind fun bt190 => _) = some true
    rw [hi (k + 1) (by omega), Option.bind_some]
    show ((spec_CutLength.f (k + 1) u v w).bind fun bt194 => _) = some true
    rw [hs (k + 1) (by omega), Option.bind_some, equalPieces_self _ (by omega) (k + 1) (by omega), Option.bind_some, if_pos rfl, bne_self_eq_false, if_neg Bool.false_ne_true, laws_FnCutLength.j0]
    cases hq : r.2 with
    | false => rw [Bool.not_false, if_pos rfl, equalPieces_self _ (by omega) k (by omega), Option.bind_some, if_pos rfl]; rfl
    | true =>
      obtain ⟨q1, q2, q3, q4⟩ := hch hq
      obtain ⟨n, rfl⟩ := Int.eq_ofNat_of_zero_le (show 0 ≤ u by omega)
      rw [Bool.not_true, if_neg Bool.false_ne_true]
      exact cutLaw_l0 n (by omega) (by omega) v w (by omega) r.1 hrl q4 r.1 k 0 0 List.drop_zero q4 (by omega)

end Go.Proofs.Ytghnljpimkchhaa.Pure
