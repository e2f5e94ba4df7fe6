/- The program's EndOf tells what the reference's tells, and leaves its argument as it was: FnExactEndOf returns true for every list of pieces. Conditions: none. -/
import Derived.Test.YtghnljpimkchhaaHFnExactEndOfx3
namespace Go.Proofs.Ytghnljpimkchhaa.Pure
open Go.RowKit Go.Proofs.Ytghnljpimkchhaa.HFnExactEndOf Go.Proofs.YtghnljpimkchhaaW.PrintWords Go.Proofs.YtghnljpimkchhaaW.PrintLast
open Go
set_option linter.unusedVariables false
set_option linter.unusedSimpArgs false

theorem rd_nat (l : List Int) (i : Nat) (h : i < l.length) : rd l (i : Int) = l[i] := by
  unfold rd
  rw [Int.toNat_natCast, List.getD_eq_getElem?_getD, List.getElem?_eq_getElem h]
  rfl

theorem step_nat (i : Nat) (h : i < 4611686018427387904) : wrap64 ((i : Int) + 1) = ((i + 1 : Nat) : Int) := by
  rw [IntWalk.wrap64_in ((i : Int) + 1) (by omega)]
  rfl

theorem within_val (x a b : Int) : impl_within.f x a b = some (decide (a ≤ x ∧ x ≤ b)) := by
  unfold impl_within.f
  by_cases h : a ≤ x
  · rw [if_pos h]; simp [h]
  · rw [if_neg h]; simp [h]

theorem inRange_val (x a b : Int) : spec_inRange.f x a b = some (decide (a ≤ x ∧ x ≤ b)) := by
  unfold spec_inRange.f
  by_cases h : a ≤ x
  · rw [if_pos h]; simp [h]
  · rw [if_neg h]; simp [h]

def okP1 (x : S47) : Bool := decide (0 ≤ x.f0 ∧ x.f0 ≤ 59) && decide (1 ≤ x.f1 ∧ x.f1 ≤ wrap64 (60 - x.f0))
def okP (l : List S47) : Bool := l.all okP1 && decide (l.length ≤ 20)

theorem vp1_val (x : S47) : impl_ValidPieces_1.f x.f0 x.f1 x.f2 = some (!(okP1 x)) := by
  unfold impl_ValidPieces_1.f okP1
  rw [within_val, Option.bind_some, within_val, Option.bind_some]
  by_cases h : 0 ≤ x.f0 ∧ x.f0 ≤ 59
  · rw [decide_eq_true h, if_pos rfl, Bool.true_and]
  · rw [decide_eq_false h, if_neg Bool.false_ne_true, Bool.false_and, Bool.not_false]

theorem implVP_val (l : List S47) : impl_ValidPieces.f l = some (okP l) := by
  unfold impl_ValidPieces.f hand_Contains_ValidPieces.f
  have hany : (l.any fun x => (impl_ValidPieces_1.f x.f0 x.f1 x.f2).getD false) = !(l.all okP1) := by
    induction l with
    | nil => rfl
    | cons x l ih =>
      rw [List.any_cons, List.all_cons, ih, vp1_val, Option.getD_some]
      show (!(okP1 x) || !(l.all okP1)) = !(okP1 x && l.all okP1)
      rw [Bool.not_and]
  rw [hany, Option.bind_some, Bool.not_not]
  unfold okP
  by_cases h : l.length ≤ 20
  · rw [if_pos (by omega), decide_eq_true h, Bool.and_true]
  · rw [if_neg (by omega), decide_eq_false h, Bool.and_false]

theorem rdP47_nat (l : List S47) (i : Nat) (h : i < l.length) : rd_T47 l (i : Int) = l[i] := by
  unfold rd_T47
  rw [Int.toNat_natCast, List.getD_eq_getElem?_getD, List.getElem?_eq_getElem h]
  rfl

theorem specVP_l0 (l : List S47) (hl : l.length ≤ 2000000) : ∀ (d k i : Nat), i + d = l.length → d < k → spec_validPieces.l0 k l (i : Int) = some ((l.drop i).all okP1 && decide (l.length ≤ 20)) := by
  intro d
  induction d with
  | zero =>
    intro k i hi hk
    obtain ⟨k, rfl⟩ : ∃ m, k = m + 1 := ⟨k - 1, by omega⟩
    rw [spec_validPieces.l0, if_neg (by omega), List.drop_eq_nil_of_le (by omega), List.all_nil, Bool.true_and]
    exact congrArg some (decide_eq_decide.mpr (by omega))
  | succ d ih =>
    intro k i hi hk
    obtain ⟨k, rfl⟩ : ∃ m, k = m + 1 := ⟨k - 1, by omega⟩
    rw [spec_validPieces.l0, if_pos (by omega), if_pos (by omega), rdP47_nat l i (by omega), inRange_val, Option.bind_some, inRange_val, Option.bind_some, step_nat i (by omega), List.drop_eq_getElem_cons (by omega : i < l.length), List.all_cons]
    generalize l[i]'(by omega) = x
    unfold okP1
    by_cases h1 : 0 ≤ x.f0 ∧ x.f0 ≤ 59
    · rw [decide_eq_true h1, if_pos rfl, Bool.true_and]
      by_cases h2 : 1 ≤ x.f1 ∧ x.f1 ≤ wrap64 (60 - x.f0)
      · rw [decide_eq_true h2, if_pos rfl, Bool.true_and, ih k (i + 1) (by omega) (by omega)]
        rfl
      · rw [decide_eq_false h2, if_neg Bool.false_ne_true, Bool.false_and, Bool.false_and]
    · rw [decide_eq_false h1, if_neg Bool.false_ne_true, Bool.false_and, Bool.false_and, Bool.false_and]

theorem specVP_ok (l : List S47) (hl : l.length ≤ 2000000) (k : Nat) (hk : l.length < k) : spec_validPieces.f k l = some (okP l) := by
  unfold spec_validPieces.f
  have h := specVP_l0 l hl l.length k 0 (by omega) hk
  rw [List.drop_zero] at h
  exact h

def sE (x : S47) : Int := wrap64 (x.f0 + x.f1)
theorem sE_pos (x : S47) (h : okP1 x = true) : (0 ≤ x.f0 ∧ 1 ≤ x.f1) ∧ sE x = x.f0 + x.f1 ∧ sE x ≤ 60 := by
  unfold okP1 at h
  rw [Bool.and_eq_true, decide_eq_true_eq, decide_eq_true_eq] at h
  obtain ⟨h1, h2, h3⟩ := h
  rw [IntWalk.wrap64_in (60 - x.f0) (by omega)] at h3
  unfold sE
  rw [IntWalk.wrap64_in (x.f0 + x.f1) (by omega)]
  omega
def scanE : List S47 → Int → Option Int
  | [], e => some e
  | x :: t, e => if x.f2 = true then scanE t e else (if e ≥ 0 then (if sE x = e then scanE t (sE x) else none) else scanE t (sE x))
def finI (l : List S47) : Option Int → Int × Bool
  | none => (-1, false)
  | some e => if e ≥ 0 then (if l.any (hand_endP e) = true then (-1, false) else (e, true)) else (e, true)
def badS (e : Int) (x : S47) : Bool := decide (sE x > e) || (x.f2 && decide (sE x = e))
def finS (l : List S47) : Option Int → Int
  | none => -2
  | some e => if e ≥ 0 then (if l.any (badS e) = true then -2 else e) else e

theorem implEnd_l0 (l : List S47) (hl : l.length ≤ 2000000) : ∀ (d k i : Nat) (e : Int), i + d = l.length → d < k → impl_EndOf.l0 k l e (i : Int) = some (finI l (scanE (l.drop i) e)) := by
  intro d
  induction d with
  | zero =>
    intro k i e hi hk
    obtain ⟨k, rfl⟩ : ∃ m, k = m + 1 := ⟨k - 1, by omega⟩
    rw [impl_EndOf.l0, if_neg (show ¬ (i : Int) < (l.length : Int) by omega), List.drop_eq_nil_of_le (by omega), scanE, finI]
    by_cases h : e ≥ 0
    · rw [if_pos h, if_pos h]
      by_cases h2 : l.any (hand_endP e) = true
      · rw [if_pos h2, if_pos h2]
      · rw [if_neg h2, if_neg h2]
    · rw [if_neg h, if_neg h]
  | succ d ih =>
    intro k i e hi hk
    obtain ⟨k, rfl⟩ : ∃ m, k = m + 1 := ⟨k - 1, by omega⟩
    rw [impl_EndOf.l0, if_pos (show (i : Int) < (l.length : Int) by omega), if_pos (show (0 : Int) ≤ (i : Int) by omega), rdP47_nat l i (by omega), step_nat i (by omega), List.drop_eq_getElem_cons (by omega : i < l.length), scanE]
    generalize l[i]'(by omega) = x
    have es : wrap64 (x.f0 + x.f1) = sE x := rfl
    rw [es]
    by_cases h1 : x.f2 = true
    · rw [if_pos h1, if_pos h1, ih k (i + 1) e (by omega) (by omega)]
    · rw [if_neg h1, if_neg h1]
      by_cases h2 : e ≥ 0
      · rw [if_pos h2, if_pos h2]
        by_cases h3 : sE x = e
        · rw [if_pos h3, if_pos h3, ih k (i + 1) _ (by omega) (by omega)]
        · rw [if_neg h3, if_neg h3, finI]
      · rw [if_neg h2, if_neg h2, ih k (i + 1) _ (by omega) (by omega)]

theorem specEnd_l1 (l : List S47) (hl : l.length ≤ 2000000) (e : Int) : ∀ (d k i : Nat), i + d = l.length → d < k → spec_end.l1 k l e (i : Int) = some (if e ≥ 0 then (if (l.drop i).any (badS e) = true then -2 else e) else e) := by
  intro d
  induction d with
  | zero =>
    intro k i hi hk
    obtain ⟨k, rfl⟩ : ∃ m, k = m + 1 := ⟨k - 1, by omega⟩
    rw [spec_end.l1, if_neg (show ¬ (i : Int) < (l.length : Int) by omega), List.drop_eq_nil_of_le (by omega), List.any_nil, if_neg Bool.false_ne_true]
    by_cases h : e ≥ 0
    · rw [if_pos h]
    · rw [if_neg h]
  | succ d ih =>
    intro k i hi hk
    obtain ⟨k, rfl⟩ : ∃ m, k = m + 1 := ⟨k - 1, by omega⟩
    rw [spec_end.l1, if_pos (show (i : Int) < (l.length : Int) by omega), step_nat i (by omega)]
    by_cases h : e ≥ 0
    · have ih' := ih k (i + 1) (by omega) (by omega)
      rw [if_pos h] at ih'
      rw [if_pos h, if_pos h, if_pos (show (0 : Int) ≤ (i : Int) by omega), rdP47_nat l i (by omega), List.drop_eq_getElem_cons (by omega : i < l.length), List.any_cons, ih']
      generalize l[i]'(by omega) = x
      have es : wrap64 (x.f0 + x.f1) = sE x := rfl
      rw [es]
      unfold badS
      by_cases h1 : sE x > e
      · rw [if_pos h1, decide_eq_true h1, Bool.true_or, Bool.true_or, if_pos rfl]
      · rw [if_neg h1, decide_eq_false h1, Bool.false_or]
        by_cases h2 : x.f2 = true
        · rw [if_pos h2, h2, Bool.true_and]
          by_cases h3 : sE x = e
          · rw [if_pos h3, decide_eq_true h3, Bool.true_or, if_pos rfl]
          · rw [if_neg h3, decide_eq_false h3, Bool.false_or]
        · rw [if_neg h2, Bool.eq_false_iff.mpr h2, Bool.false_and, Bool.false_or]
    · rw [if_neg h, if_neg h, ih k (i + 1) (by omega) (by omega), if_neg h]

theorem specEnd_l0 (l : List S47) (hl : l.length ≤ 2000000) : ∀ (d k i : Nat) (e : Int), i + d = l.length → d + l.length + 2 ≤ k → spec_end.l0 k l e (i : Int) = some (finS l (scanE (l.drop i) e)) := by
  intro d
  induction d with
  | zero =>
    intro k i e hi hk
    obtain ⟨k, rfl⟩ : ∃ m, k = m + 1 := ⟨k - 1, by omega⟩
    rw [spec_end.l0, if_neg (show ¬ (i : Int) < (l.length : Int) by omega), List.drop_eq_nil_of_le (by omega), scanE, finS]
    have h := specEnd_l1 l hl e l.length k 0 (by omega) (by omega)
    rw [List.drop_zero] at h
    exact h
  | succ d ih =>
    intro k i e hi hk
    obtain ⟨k, rfl⟩ : ∃ m, k = m + 1 := ⟨k - 1, by omega⟩
    rw [spec_end.l0, if_pos (show (i : Int) < (l.length : Int) by omega), if_pos (show (0 : Int) ≤ (i : Int) by omega), rdP47_nat l i (by omega), step_nat i (by omega), List.drop_eq_getElem_cons (by omega : i < l.length), scanE]
    generalize l[i]'(by omega) = x
    have es : wrap64 (x.f0 + x.f1) = sE x := rfl
    rw [es]
    by_cases h1 : x.f2 = true
    · rw [if_pos h1, if_pos h1, ih k (i + 1) e (by omega) (by omega)]
    · rw [if_neg h1, if_neg h1]
      by_cases h2 : e ≥ 0
      · rw [if_pos h2, if_pos h2]
        by_cases h3 : sE x = e
        · rw [if_pos h3.symm, if_pos h3, ih k (i + 1) _ (by omega) (by omega)]
        · rw [if_neg (fun h => h3 h.symm), if_neg h3, finS]
      · rw [if_neg h2, if_neg h2, ih k (i + 1) _ (by omega) (by omega)]

theorem scanE_facts : ∀ (l : List S47) (e0 e : Int), (∀ x ∈ l, 1 ≤ sE x) → scanE l e0 = some e → (0 ≤ e0 → e = e0) ∧ (∀ x ∈ l, x.f2 = false → sE x = e) ∧ (e = e0 ∨ ∃ x ∈ l, x.f2 = false ∧ sE x = e) := by
  intro l
  induction l with
  | nil =>
    intro e0 e _ h
    rw [scanE] at h
    cases h
    exact ⟨fun _ => rfl, fun x hx => absurd hx (by simp), .inl rfl⟩
  | cons x t ih =>
    intro e0 e hp h
    have hpt : ∀ y ∈ t, 1 ≤ sE y := fun y hy => hp y (List.mem_cons_of_mem _ hy)
    have hpx := hp x (List.mem_cons_self ..)
    rw [scanE] at h
    by_cases h1 : x.f2 = true
    · rw [if_pos h1] at h
      obtain ⟨g1, g2, g3⟩ := ih e0 e hpt h
      refine ⟨g1, fun y hy hf => ?_, ?_⟩
      · rcases List.mem_cons.1 hy with rfl | hy
        · rw [h1] at hf; cases hf
        · exact g2 y hy hf
      · rcases g3 with g3 | ⟨y, hy, g⟩
        · exact .inl g3
        · exact .inr ⟨y, List.mem_cons_of_mem _ hy, g⟩
    · rw [if_neg h1] at h
      have h1' := Bool.eq_false_iff.mpr h1
      by_cases h2 : e0 ≥ 0
      · rw [if_pos h2] at h
        by_cases h3 : sE x = e0
        · rw [if_pos h3] at h
          obtain ⟨g1, g2, g3⟩ := ih (sE x) e hpt h
          have ge := g1 (by omega)
          refine ⟨fun _ => by omega, fun y hy hf => ?_, .inl (by omega)⟩
          rcases List.mem_cons.1 hy with rfl | hy
          · exact ge.symm
          · exact g2 y hy hf
        · rw [if_neg h3] at h; cases h
      · rw [if_neg h2] at h
        obtain ⟨g1, g2, g3⟩ := ih (sE x) e hpt h
        have ge := g1 (by omega)
        refine ⟨fun h => absurd h (by omega), fun y hy hf => ?_, .inr ⟨x, List.mem_cons_self .., h1', ge.symm⟩⟩
        rcases List.mem_cons.1 hy with rfl | hy
        · exact ge.symm
        · exact g2 y hy hf

theorem scanE_append (l m : List S47) : ∀ e0, scanE (l ++ m) e0 = (scanE l e0).bind (scanE m) := by
  induction l with
  | nil => intro e0; rfl
  | cons x t ih =>
    intro e0
    rw [List.cons_append, scanE, scanE]
    by_cases h1 : x.f2 = true
    · rw [if_pos h1, if_pos h1, ih]
    · rw [if_neg h1, if_neg h1]
      by_cases h2 : e0 ≥ 0
      · rw [if_pos h2, if_pos h2]
        by_cases h3 : sE x = e0
        · rw [if_pos h3, if_pos h3, ih]
        · rw [if_neg h3, if_neg h3]; rfl
      · rw [if_neg h2, if_neg h2, ih]

theorem okP_pos (l : List S47) (h : okP l = true) : ∀ x ∈ l, 1 ≤ sE x := by
  unfold okP at h
  rw [Bool.and_eq_true, List.all_eq_true] at h
  intro x hx
  have := sE_pos x (h.1 x hx)
  omega

theorem any_congr (l : List S47) (p q : S47 → Bool) (h : ∀ x ∈ l, p x = q x) : l.any p = l.any q := by
  induction l with
  | nil => rfl
  | cons x t ih => rw [List.any_cons, List.any_cons, h x (List.mem_cons_self ..), ih (fun y hy => h y (List.mem_cons_of_mem _ hy))]

theorem fin_same (l : List S47) (hp : ∀ x ∈ l, 1 ≤ sE x) (r : Option Int) (hr : r = scanE l (-1)) : (mx (finS l r) (-1), decide (finS l r > -2)) = finI l r := by
  cases r with
  | none => rfl
  | some e =>
    obtain ⟨_, g2, g3⟩ := scanE_facts l (-1) e hp hr.symm
    have he : -1 ≤ e := by
      rcases g3 with g3 | ⟨x, hx, _, g⟩
      · omega
      · have := hp x hx; omega
    have hm : ∀ a : Int, -1 ≤ a → (mx a (-1), decide (a > -2)) = (a, true) := fun a ha => by
      unfold mx
      rw [if_neg (by omega), decide_eq_true (by omega)]
    rw [finS, finI]
    by_cases h : e ≥ 0
    · rw [if_pos h, if_pos h]
      have ha : l.any (badS e) = l.any (hand_endP e) := by
        apply any_congr
        intro x hx
        have es : wrap64 (x.f0 + x.f1) = sE x := rfl
        unfold badS hand_endP
        rw [es]
        cases hf : x.f2 with
        | true => rw [Bool.true_and, Bool.true_and, ← Bool.decide_or]; exact decide_eq_decide.mpr (by omega)
        | false =>
          have := g2 x hx hf
          rw [Bool.false_and, Bool.false_and, Bool.or_false]
          exact decide_eq_false (by omega)
      rw [ha]
      by_cases h2 : l.any (hand_endP e) = true
      · rw [if_pos h2, if_pos h2]; rfl
      · rw [if_neg h2, if_neg h2]; exact hm e he
    · rw [if_neg h, if_neg h]; exact hm e he

def endM (l : List S47) : Int × Bool := if okP l = true then finI l (scanE l (-1)) else (-1, false)

theorem implEnd_ok (l : List S47) (hl : l.length ≤ 2000000) (k : Nat) (hk : l.length < k) : impl_EndOf.f k l = some (endM l) := by
  unfold impl_EndOf.f endM
  rw [implVP_val, Option.bind_some]
  by_cases h : okP l = true
  · rw [if_pos h, if_pos h]
    have := implEnd_l0 l hl l.length k 0 (-1) (by omega) hk
    rw [List.drop_zero] at this
    exact this
  · rw [if_neg h, if_neg h]

theorem specEnd_ok (l : List S47) (hl : l.length ≤ 2000000) (k : Nat) (hk : l.length + l.length + 2 ≤ k) : spec_EndOf.f k l = some (endM l) := by
  unfold spec_EndOf.f endM spec_end.f
  rw [specVP_ok l hl k (by omega), Option.bind_some]
  by_cases h : okP l = true
  · rw [if_pos h, if_pos h]
    have := specEnd_l0 l hl l.length k 0 (-1) (by omega) hk
    rw [List.drop_zero] at this
    rw [show ((0 : Nat) : Int) = 0 from rfl] at this
    rw [this, Option.bind_some, fin_same l (okP_pos l h) _ rfl]
  · rw [if_neg h, if_neg h]

theorem eqPiece_self (a b : Int) (c : Bool) : laws_eqPiece.f a b c a b c = some true := by
  unfold laws_eqPiece.f
  rw [if_pos rfl, if_pos rfl, bne_self_eq_false, if_neg Bool.false_ne_true]

theorem eqPieceS_l0 (a : List S47) (hl : a.length ≤ 2000000) : ∀ (d k i : Nat), i + d = a.length → d < k → laws_eqPieceS.l0 k a a (i : Int) = some true := by
  intro d
  induction d with
  | zero =>
    intro k i hi hk
    obtain ⟨k, rfl⟩ : ∃ m, k = m + 1 := ⟨k - 1, by omega⟩
    simp only [laws_eqPieceS.l0]
    rw [if_neg (by omega)]
  | succ d ih =>
    intro k i hi hk
    obtain ⟨k, rfl⟩ : ∃ m, k = m + 1 := ⟨k - 1, by omega⟩
    simp only [laws_eqPieceS.l0]
    rw [if_pos (by omega), if_pos (by omega), if_pos (by omega), eqPiece_self, Option.bind_some, if_pos rfl, step_nat i (by omega)]
    exact ih k (i + 1) (by omega) (by omega)

theorem eqPieceS_self (a : List S47) (hl : a.length ≤ 2000000) (k : Nat) (hk : a.length < k) : laws_eqPieceS.f k a a = some true := by
  unfold laws_eqPieceS.f
  rw [if_pos rfl]
  exact eqPieceS_l0 a hl a.length k 0 (by omega) hk

theorem rdP_nat (l : List S47) (i : Nat) (h : i < l.length) : rd_T47 l (i : Int) = l[i] := by
  unfold rd_T47
  rw [Int.toNat_natCast, List.getD_eq_getElem?_getD, List.getElem?_eq_getElem h]
  rfl

def conv (x : S56) : S47 := ⟨x.f0, x.f1, x.f2⟩
theorem rdP56_nat (l : List S56) (i : Nat) (h : i < l.length) : rd_T56 l (i : Int) = l[i] := by
  unfold rd_T56
  rw [Int.toNat_natCast, List.getD_eq_getElem?_getD, List.getElem?_eq_getElem h]
  rfl
theorem toPieceS_l0 (l : List S56) (hl : l.length ≤ 2000000) : ∀ (d k i : Nat) (o : List S47), i + d = l.length → d < k → o.length = l.length → (∀ j, j < i → o[j]? = (l.map conv)[j]?) → laws_toPieceS.l0 k l o (i : Int) = some (l.map conv) := by
  intro d
  induction d with
  | zero =>
    intro k i o hi hk ho hj
    obtain ⟨k, rfl⟩ : ∃ m, k = m + 1 := ⟨k - 1, by omega⟩
    rw [laws_toPieceS.l0, if_neg (by omega)]
    congr 1
    apply List.ext_getElem?
    intro j
    by_cases h : j < l.length
    · exact hj j (by omega)
    · rw [List.getElem?_eq_none (by omega), List.getElem?_eq_none (by rw [List.length_map]; omega)]
  | succ d ih =>
    intro k i o hi hk ho hj
    obtain ⟨k, rfl⟩ : ∃ m, k = m + 1 := ⟨k - 1, by omega⟩
    rw [laws_toPieceS.l0, if_pos (by omega), if_pos (by omega)]
    unfold laws_toPiece.f
    rw [Option.bind_some, if_pos (by omega), step_nat i (by omega), Int.toNat_natCast, rdP56_nat l i (by omega)]
    refine ih k (i + 1) _ (by omega) (by omega) (by rw [List.length_set]; exact ho) ?_
    intro j hji
    by_cases e : i = j
    · subst e
      rw [List.getElem?_set_self (by omega), List.getElem?_map, List.getElem?_eq_getElem (by omega)]
      rfl
    · rw [List.getElem?_set_ne e]
      exact hj j (by omega)

theorem toPieceS_ok (l : List S56) (hl : l.length ≤ 2000000) (k : Nat) (hk : l.length < k) : laws_toPieceS.f k l = some (l.map conv) := by
  unfold laws_toPieceS.f
  rw [if_pos (by omega), if_pos (by rw [Int.toNat_natCast]; omega), Int.toNat_natCast]
  exact toPieceS_l0 l hl l.length k 0 _ (by omega) hk (List.length_replicate ..) (fun j hj => absurd hj (Nat.not_lt_zero _))

theorem szP_ok (l : List S56) (n : Int) (hl : l.length ≤ maxLen) (h0 : 0 ≤ n) (h1 : n ≤ 1048576) : laws_szPieceS.f l n = some (if n - (l.length : Int) < 0 then -1 else n - (l.length : Int)) := by
  have hm : maxLen ≤ 9223372036854775807 := by decide
  unfold laws_szPieceS.f
  rw [IntWalk.wrap64_in (n - (l.length : Int)) (by omega)]
  by_cases h : n - (l.length : Int) < 0
  · rw [if_pos h, if_pos h]
  · rw [if_neg h, if_neg h]

theorem FnExactEndOf (l : List S56) (hl : l.length ≤ maxLen) : ∃ k, laws_FnExactEndOf.f k l = some true := by
  refine ⟨l.length + l.length + 100 + 1, ?_⟩
  unfold laws_FnExactEndOf.f
  rw [szP_ok l 1048576 hl (by omega) (by omega), Option.bind_some]
  by_cases h : (1048576 : Int) - (l.length : Int) < 0
  · rw [if_pos h, if_pos (show (-1 : Int) < 0 by omega)]
  · have hn : (l.map conv).length = l.length := List.length_map ..
    rw [if_neg h, if_neg h, toPieceS_ok l (by omega) _ (by omega), Option.bind_some, specEnd_ok _ (by omega) _ (by omega), Option.bind_some, Option.bind_some, implEnd_ok _ (by omega) _ (by omega), Option.bind_some, if_pos rfl, bne_self_eq_false, laws_FnExactEndOf.j0, if_neg Bool.false_ne_true, toPieceS_ok l (by omega) _ (by omega), Option.bind_some, eqPieceS_self _ (by omega) _ (by omega), Option.bind_some, if_pos rfl]

end Go.Proofs.Ytghnljpimkchhaa.Pure
