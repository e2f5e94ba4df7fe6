/- Ends are told by one piece: FnEndOf returns true for every list of bytes. Conditions: none. -/
import Derived.Test.YtghnljpimkchhaaHFnEndOfx4
namespace Go.Proofs.Ytghnljpimkchhaa.Pure
open Go.RowKit Go.Proofs.Ytghnljpimkchhaa.HFnEndOf Go.Proofs.YtghnljpimkchhaaW.PrintWords Go.Proofs.YtghnljpimkchhaaW.PrintLast
open Go
set_option linter.unusedVariables false
set_option linter.unusedSimpArgs false

theorem rd_nat (l : List Int) (i : Nat) (h : i < l.length) : rd l (i : Int) = l[i] := by
  unfold rd
  rw [Int.toNat_natCast, List.getD_eq_getElem?_getD, List.getElem?_eq_getElem h]
  rfl

theorem step_nat (i : Nat) (h : i < 4611686018427387904) : wrap64 ((i : Int) + 1) = ((i + 1 : Nat) : Int) := by
  rw [IntWalk.wrap64_in ((i : Int) + 1) (by omega)]
  rfl

theorem within_val (x a b : Int) : impl_within.f x a b = some (decide (a ≤ x ∧ x ≤ b)) := by
  unfold impl_within.f
  by_cases h : a ≤ x
  · rw [if_pos h]; simp [h]
  · rw [if_neg h]; simp [h]

theorem inRange_val (x a b : Int) : spec_inRange.f x a b = some (decide (a ≤ x ∧ x ≤ b)) := by
  unfold spec_inRange.f
  by_cases h : a ≤ x
  · rw [if_pos h]; simp [h]
  · rw [if_neg h]; simp [h]

def okP1 (x : S47) : Bool := decide (0 ≤ x.f0 ∧ x.f0 ≤ 59) && decide (1 ≤ x.f1 ∧ x.f1 ≤ wrap64 (60 - x.f0))
def okP (l : List S47) : Bool := l.all okP1 && decide (l.length ≤ 20)

theorem vp1_val (x : S47) : impl_ValidPieces_1.f x.f0 x.f1 x.f2 = some (!(okP1 x)) := by
  unfold impl_ValidPieces_1.f okP1
  rw [within_val, Option.bind_some, within_val, Option.bind_some]
  by_cases h : 0 ≤ x.f0 ∧ x.f0 ≤ 59
  · rw [decide_eq_true h, if_pos rfl, Bool.true_and]
  · rw [decide_eq_false h, if_neg Bool.false_ne_true, Bool.false_and, Bool.not_false]

theorem implVP_val (l : List S47) : impl_ValidPieces.f l = some (okP l) := by
  unfold impl_ValidPieces.f hand_Contains_ValidPieces.f
  have hany : (l.any fun x => (impl_ValidPieces_1.f x.f0 x.f1 x.f2).getD false) = !(l.all okP1) := by
    induction l with
    | nil => rfl
    | cons x l ih =>
      rw [List.any_cons, List.all_cons, ih, vp1_val, Option.getD_some]
      show (!(okP1 x) || !(l.all okP1)) = !(okP1 x && l.all okP1)
      rw [Bool.not_and]
  rw [hany, Option.bind_some, Bool.not_not]
  unfold okP
  by_cases h : l.length ≤ 20
  · rw [if_pos (by omega), decide_eq_true h, Bool.and_true]
  · rw [if_neg (by omega), decide_eq_false h, Bool.and_false]

theorem rdP47_nat (l : List S47) (i : Nat) (h : i < l.length) : rd_T47 l (i : Int) = l[i] := by
  unfold rd_T47
  rw [Int.toNat_natCast, List.getD_eq_getElem?_getD, List.getElem?_eq_getElem h]
  rfl

theorem specVP_l0 (l : List S47) (hl : l.length ≤ 2000000) : ∀ (d k i : Nat), i + d = l.length → d < k → spec_validPieces.l0 k l (i : Int) = some ((l.drop i).all okP1 && decide (l.length ≤ 20)) := by
  intro d
  induction d with
  | zero =>
    intro k i hi hk
    obtain ⟨k, rfl⟩ : ∃ m, k = m + 1 := ⟨k - 1, by omega⟩
    rw [spec_validPieces.l0, if_neg (by omega), List.drop_eq_nil_of_le (by omega), List.all_nil, Bool.true_and]
    exact congrArg some (decide_eq_decide.mpr (by omega))
  | succ d ih =>
    intro k i hi hk
    obtain ⟨k, rfl⟩ : ∃ m, k = m + 1 := ⟨k - 1, by omega⟩
    rw [spec_validPieces.l0, if_pos (by omega), if_pos (by omega), rdP47_nat l i (by omega), inRange_val, Option.bind_some, inRange_val, Option.bind_some, step_nat i (by omega), List.drop_eq_getElem_cons (by omega : i < l.length), List.all_cons]
    generalize l[i]'(by omega) = x
    unfold okP1
    by_cases h1 : 0 ≤ x.f0 ∧ x.f0 ≤ 59
    · rw [decide_eq_true h1, if_pos rfl, Bool.true_and]
      by_cases h2 : 1 ≤ x.f1 ∧ x.f1 ≤ wrap64 (60 - x.f0)
      · rw [decide_eq_true h2, if_pos rfl, Bool.true_and, ih k (i + 1) (by omega) (by omega)]
        rfl
      · rw [decide_eq_false h2, if_neg Bool.false_ne_true, Bool.false_and, Bool.false_and]
    · rw [decide_eq_false h1, if_neg Bool.false_ne_true, Bool.false_and, Bool.false_and, Bool.false_and]

theorem specVP_ok (l : List S47) (hl : l.length ≤ 2000000) (k : Nat) (hk : l.length < k) : spec_validPieces.f k l = some (okP l) := by
  unfold spec_validPieces.f
  have h := specVP_l0 l hl l.length k 0 (by omega) hk
  rw [List.drop_zero] at h
  exact h

def sE (x : S47) : Int := wrap64 (x.f0 + x.f1)
theorem sE_pos (x : S47) (h : okP1 x = true) : (0 ≤ x.f0 ∧ 1 ≤ x.f1) ∧ sE x = x.f0 + x.f1 ∧ sE x ≤ 60 := by
  unfold okP1 at h
  rw [Bool.and_eq_true, decide_eq_true_eq, decide_eq_true_eq] at h
  obtain ⟨h1, h2, h3⟩ := h
  rw [IntWalk.wrap64_in (60 - x.f0) (by omega)] at h3
  unfold sE
  rw [IntWalk.wrap64_in (x.f0 + x.f1) (by omega)]
  omega
def scanE : List S47 → Int → Option Int
  | [], e => some e
  | x :: t, e => if x.f2 = true then scanE t e else (if e ≥ 0 then (if sE x = e then scanE t (sE x) else none) else scanE t (sE x))
def finI (l : List S47) : Option Int → Int × Bool
  | none => (-1, false)
  | some e => if e ≥ 0 then (if l.any (hand_endP e) = true then (-1, false) else (e, true)) else (e, true)
def badS (e : Int) (x : S47) : Bool := decide (sE x > e) || (x.f2 && decide (sE x = e))
def finS (l : List S47) : Option Int → Int
  | none => -2
  | some e => if e ≥ 0 then (if l.any (badS e) = true then -2 else e) else e

theorem implEnd_l0 (l : List S47) (hl : l.length ≤ 2000000) : ∀ (d k i : Nat) (e : Int), i + d = l.length → d < k → impl_EndOf.l0 k l e (i : Int) = some (finI l (scanE (l.drop i) e)) := by
  intro d
  induction d with
  | zero =>
    intro k i e hi hk
    obtain ⟨k, rfl⟩ : ∃ m, k = m + 1 := ⟨k - 1, by omega⟩
    rw [impl_EndOf.l0, if_neg (show ¬ (i : Int) < (l.length : Int) by omega), List.drop_eq_nil_of_le (by omega), scanE, finI]
    by_cases h : e ≥ 0
    · rw [if_pos h, if_pos h]
      by_cases h2 : l.any (hand_endP e) = true
      · rw [if_pos h2, if_pos h2]
      · rw [if_neg h2, if_neg h2]
    · rw [if_neg h, if_neg h]
  | succ d ih =>
    intro k i e hi hk
    obtain ⟨k, rfl⟩ : ∃ m, k = m + 1 := ⟨k - 1, by omega⟩
    rw [impl_EndOf.l0, if_pos (show (i : Int) < (l.length : Int) by omega), if_pos (show (0 : Int) ≤ (i : Int) by omega), rdP47_nat l i (by omega), step_nat i (by omega), List.drop_eq_getElem_cons (by omega : i < l.length), scanE]
    generalize l[i]'(by omega) = x
    have es : wrap64 (x.f0 + x.f1) = sE x := rfl
    rw [es]
    by_cases h1 : x.f2 = true
    · rw [if_pos h1, if_pos h1, ih k (i + 1) e (by omega) (by omega)]
    · rw [if_neg h1, if_neg h1]
      by_cases h2 : e ≥ 0
      · rw [if_pos h2, if_pos h2]
        by_cases h3 : sE x = e
        · rw [if_pos h3, if_pos h3, ih k (i + 1) _ (by omega) (by omega)]
        · rw [if_neg h3, if_neg h3, finI]
      · rw [if_neg h2, if_neg h2, ih k (i + 1) _ (by omega) (by omega)]

theorem specEnd_l1 (l : List S47) (hl : l.length ≤ 2000000) (e : Int) : ∀ (d k i : Nat), i + d = l.length → d < k → spec_end.l1 k l e (i : Int) = some (if e ≥ 0 then (if (l.drop i).any (badS e) = true then -2 else e) else e) := by
  intro d
  induction d with
  | zero =>
    intro k i hi hk
    obtain ⟨k, rfl⟩ : ∃ m, k = m + 1 := ⟨k - 1, by omega⟩
    rw [spec_end.l1, if_neg (show ¬ (i : Int) < (l.length : Int) by omega), List.drop_eq_nil_of_le (by omega), List.any_nil, if_neg Bool.false_ne_true]
    by_cases h : e ≥ 0
    · rw [if_pos h]
    · rw [if_neg h]
  | succ d ih =>
    intro k i hi hk
    obtain ⟨k, rfl⟩ : ∃ m, k = m + 1 := ⟨k - 1, by omega⟩
    rw [spec_end.l1, if_pos (show (i : Int) < (l.length : Int) by omega), step_nat i (by omega)]
    by_cases h : e ≥ 0
    · have ih' := ih k (i + 1) (by omega) (by omega)
      rw [if_pos h] at ih'
      rw [if_pos h, if_pos h, if_pos (show (0 : Int) ≤ (i : Int) by omega), rdP47_nat l i (by omega), List.drop_eq_getElem_cons (by omega : i < l.length), List.any_cons, ih']
      generalize l[i]'(by omega) = x
      have es : wrap64 (x.f0 + x.f1) = sE x := rfl
      rw [es]
      unfold badS
      by_cases h1 : sE x > e
      · rw [if_pos h1, decide_eq_true h1, Bool.true_or, Bool.true_or, if_pos rfl]
      · rw [if_neg h1, decide_eq_false h1, Bool.false_or]
        by_cases h2 : x.f2 = true
        · rw [if_pos h2, h2, Bool.true_and]
          by_cases h3 : sE x = e
          · rw [if_pos h3, decide_eq_true h3, Bool.true_or, if_pos rfl]
          · rw [if_neg h3, decide_eq_false h3, Bool.false_or]
        · rw [if_neg h2, Bool.eq_false_iff.mpr h2, Bool.false_and, Bool.false_or]
    · rw [if_neg h, if_neg h, ih k (i + 1) (by omega) (by omega), if_neg h]

theorem specEnd_l0 (l : List S47) (hl : l.length ≤ 2000000) : ∀ (d k i : Nat) (e : Int), i + d = l.length → d + l.length + 2 ≤ k → spec_end.l0 k l e (i : Int) = some (finS l (scanE (l.drop i) e)) := by
  intro d
  induction d with
  | zero =>
    intro k i e hi hk
    obtain ⟨k, rfl⟩ : ∃ m, k = m + 1 := ⟨k - 1, by omega⟩
    rw [spec_end.l0, if_neg (show ¬ (i : Int) < (l.length : Int) by omega), List.drop_eq_nil_of_le (by omega), scanE, finS]
    have h := specEnd_l1 l hl e l.length k 0 (by omega) (by omega)
    rw [List.drop_zero] at h
    exact h
  | succ d ih =>
    intro k i e hi hk
    obtain ⟨k, rfl⟩ : ∃ m, k = m + 1 := ⟨k - 1, by omega⟩
    rw [spec_end.l0, if_pos (show (i : Int) < (l.length : Int) by omega), if_pos (show (0 : Int) ≤ (i : Int) by omega), rdP47_nat l i (by omega), step_nat i (by omega), List.drop_eq_getElem_cons (by omega : i < l.length), scanE]
    generalize l[i]'(by omega) = x
    have es : wrap64 (x.f0 + x.f1) = sE x := rfl
    rw [es]
    by_cases h1 : x.f2 = true
    · rw [if_pos h1, if_pos h1, ih k (i + 1) e (by omega) (by omega)]
    · rw [if_neg h1, if_neg h1]
      by_cases h2 : e ≥ 0
      · rw [if_pos h2, if_pos h2]
        by_cases h3 : sE x = e
        · rw [if_pos h3.symm, if_pos h3, ih k (i + 1) _ (by omega) (by omega)]
        · rw [if_neg (fun h => h3 h.symm), if_neg h3, finS]
      · rw [if_neg h2, if_neg h2, ih k (i + 1) _ (by omega) (by omega)]

theorem scanE_facts : ∀ (l : List S47) (e0 e : Int), (∀ x ∈ l, 1 ≤ sE x) → scanE l e0 = some e → (0 ≤ e0 → e = e0) ∧ (∀ x ∈ l, x.f2 = false → sE x = e) ∧ (e = e0 ∨ ∃ x ∈ l, x.f2 = false ∧ sE x = e) := by
  intro l
  induction l with
  | nil =>
    intro e0 e _ h
    rw [scanE] at h
    cases h
    exact ⟨fun _ => rfl, fun x hx => absurd hx (by simp), .inl rfl⟩
  | cons x t ih =>
    intro e0 e hp h
    have hpt : ∀ y ∈ t, 1 ≤ sE y := fun y hy => hp y (List.mem_cons_of_mem _ hy)
    have hpx := hp x (List.mem_cons_self ..)
    rw [scanE] at h
    by_cases h1 : x.f2 = true
    · rw [if_pos h1] at h
      obtain ⟨g1, g2, g3⟩ := ih e0 e hpt h
      refine ⟨g1, fun y hy hf => ?_, ?_⟩
      · rcases List.mem_cons.1 hy with rfl | hy
        · rw [h1] at hf; cases hf
        · exact g2 y hy hf
      · rcases g3 with g3 | ⟨y, hy, g⟩
        · exact .inl g3
        · exact .inr ⟨y, List.mem_cons_of_mem _ hy, g⟩
    · rw [if_neg h1] at h
      have h1' := Bool.eq_false_iff.mpr h1
      by_cases h2 : e0 ≥ 0
      · rw [if_pos h2] at h
        by_cases h3 : sE x = e0
        · rw [if_pos h3] at h
          obtain ⟨g1, g2, g3⟩ := ih (sE x) e hpt h
          have ge := g1 (by omega)
          refine ⟨fun _ => by omega, fun y hy hf => ?_, .inl (by omega)⟩
          rcases List.mem_cons.1 hy with rfl | hy
          · exact ge.symm
          · exact g2 y hy hf
        · rw [if_neg h3] at h; cases h
      · rw [if_neg h2] at h
        obtain ⟨g1, g2, g3⟩ := ih (sE x) e hpt h
        have ge := g1 (by omega)
        refine ⟨fun h => absurd h (by omega), fun y hy hf => ?_, .inr ⟨x, List.mem_cons_self .., h1', ge.symm⟩⟩
        rcases List.mem_cons.1 hy with rfl | hy
        · exact ge.symm
        · exact g2 y hy hf

theorem scanE_append (l m : List S47) : ∀ e0, scanE (l ++ m) e0 = (scanE l e0).bind (scanE m) := by
  induction l with
  | nil => intro e0; rfl
  | cons x t ih =>
    intro e0
    rw [List.cons_append, scanE, scanE]
    by_cases h1 : x.f2 = true
    · rw [if_pos h1, if_pos h1, ih]
    · rw [if_neg h1, if_neg h1]
      by_cases h2 : e0 ≥ 0
      · rw [if_pos h2, if_pos h2]
        by_cases h3 : sE x = e0
        · rw [if_pos h3, if_pos h3, ih]
        · rw [if_neg h3, if_neg h3]; rfl
      · rw [if_neg h2, if_neg h2, ih]

theorem okP_pos (l : List S47) (h : okP l = true) : ∀ x ∈ l, 1 ≤ sE x := by
  unfold okP at h
  rw [Bool.and_eq_true, List.all_eq_true] at h
  intro x hx
  have := sE_pos x (h.1 x hx)
  omega

theorem any_congr (l : List S47) (p q : S47 → Bool) (h : ∀ x ∈ l, p x = q x) : l.any p = l.any q := by
  induction l with
  | nil => rfl
  | cons x t ih => rw [List.any_cons, List.any_cons, h x (List.mem_cons_self ..), ih (fun y hy => h y (List.mem_cons_of_mem _ hy))]

theorem fin_same (l : List S47) (hp : ∀ x ∈ l, 1 ≤ sE x) (r : Option Int) (hr : r = scanE l (-1)) : (mx (finS l r) (-1), decide (finS l r > -2)) = finI l r := by
  cases r with
  | none => rfl
  | some e =>
    obtain ⟨_, g2, g3⟩ := scanE_facts l (-1) e hp hr.symm
    have he : -1 ≤ e := by
      rcases g3 with g3 | ⟨x, hx, _, g⟩
      · omega
      · have := hp x hx; omega
    have hm : ∀ a : Int, -1 ≤ a → (mx a (-1), decide (a > -2)) = (a, true) := fun a ha => by
      unfold mx
      rw [if_neg (by omega), decide_eq_true (by omega)]
    rw [finS, finI]
    by_cases h : e ≥ 0
    · rw [if_pos h, if_pos h]
      have ha : l.any (badS e) = l.any (hand_endP e) := by
        apply any_congr
        intro x hx
        have es : wrap64 (x.f0 + x.f1) = sE x := rfl
        unfold badS hand_endP
        rw [es]
        cases hf : x.f2 with
        | true => rw [Bool.true_and, Bool.true_and, ← Bool.decide_or]; exact decide_eq_decide.mpr (by omega)
        | false =>
          have := g2 x hx hf
          rw [Bool.false_and, Bool.false_and, Bool.or_false]
          exact decide_eq_false (by omega)
      rw [ha]
      by_cases h2 : l.any (hand_endP e) = true
      · rw [if_pos h2, if_pos h2]; rfl
      · rw [if_neg h2, if_neg h2]; exact hm e he
    · rw [if_neg h, if_neg h]; exact hm e he

def endM (l : List S47) : Int × Bool := if okP l = true then finI l (scanE l (-1)) else (-1, false)

theorem implEnd_ok (l : List S47) (hl : l.length ≤ 2000000) (k : Nat) (hk : l.length < k) : impl_EndOf.f k l = some (endM l) := by
  unfold impl_EndOf.f endM
  rw [implVP_val, Option.bind_some]
  by_cases h : okP l = true
  · rw [if_pos h, if_pos h]
    have := implEnd_l0 l hl l.length k 0 (-1) (by omega) hk
    rw [List.drop_zero] at this
    exact this
  · rw [if_neg h, if_neg h]

theorem specEnd_ok (l : List S47) (hl : l.length ≤ 2000000) (k : Nat) (hk : l.length + l.length + 2 ≤ k) : spec_EndOf.f k l = some (endM l) := by
  unfold spec_EndOf.f endM spec_end.f
  rw [specVP_ok l hl k (by omega), Option.bind_some]
  by_cases h : okP l = true
  · rw [if_pos h, if_pos h]
    have := specEnd_l0 l hl l.length k 0 (-1) (by omega) hk
    rw [List.drop_zero] at this
    rw [show ((0 : Nat) : Int) = 0 from rfl] at this
    rw [this, Option.bind_some, fin_same l (okP_pos l h) _ rfl]
  · rw [if_neg h, if_neg h]

theorem cut_part (room unit : Int) (h1 : 1 ≤ unit) (h2 : unit ≤ 8) (h3 : unit ≤ room) (h4 : room ≤ 60) :
    ∃ p, wrap64 ((wrap64 (Int.tdiv room unit)) * unit) = p ∧ 1 ≤ p ∧ p ≤ room := by
  have e : Int.tdiv room unit = room / unit := Int.tdiv_eq_ediv_of_nonneg (by omega)
  have d0 : 0 ≤ room / unit := Int.ediv_nonneg (by omega) (by omega)
  have d1 : 1 ≤ room / unit := (Int.le_ediv_iff_mul_le (by omega)).2 (by omega)
  have d2 : room / unit ≤ room := Int.ediv_le_self _ (by omega)
  have m1 : room / unit * unit ≤ room := Int.ediv_mul_le _ (by omega)
  have m0 : 1 * 1 ≤ room / unit * unit := Int.mul_le_mul d1 h1 (by omega) (by omega)
  rw [e, IntWalk.wrap64_in (room / unit) (by omega)]
  generalize room / unit * unit = p at m0 m1
  exact ⟨p, IntWalk.wrap64_in p (by omega), by omega, by omega⟩

theorem scut_loop (n room unit : Int) (hn : 1 ≤ n) (hn' : n ≤ 60) (h1 : 1 ≤ unit) (h2 : unit ≤ 8) (h3 : unit ≤ room) (h4 : room ≤ 60) :
    ∀ (d k' : Nat) (at' : Int) (o : List S47), 0 ≤ at' → at' < n → n - at' ≤ d → (o.length : Int) ≤ at' → d + 2 < k' →
    ∃ r, spec_CutLength.l0 k' n room unit o at' = some r ∧ r.1.length ≤ 20 := by
  obtain ⟨p, hp, hp1, hp2⟩ := cut_part room unit h1 h2 h3 h4
  intro d
  induction d with
  | zero => intro k' at' o h5 h6 h7; omega
  | succ d ih =>
    intro k' at' o h5 h6 h7 h8 hk'
    obtain ⟨k', rfl⟩ : ∃ m, k' = m + 1 := ⟨k' - 1, by omega⟩
    have hw : wrap64 (n - at') = n - at' := IntWalk.wrap64_in _ (by omega)
    rw [spec_CutLength.l0, hp, hw, if_pos h6]
    by_cases h9 : n - at' > room
    · have hq : wrap64 (at' + p) = at' + p := IntWalk.wrap64_in _ (by omega)
      rw [if_pos h9, if_neg (show ¬ unit = 0 by omega), if_pos (show o.length < 5864062014805 by omega), hq, decide_eq_true (show at' + p < n by omega)]
      refine ih k' (at' + p) _ (by omega) (by omega) (by omega) ?_ (by omega)
      rw [List.length_append]; simp only [List.length_cons, List.length_nil]; omega
    · have hq : wrap64 (at' + (n - at')) = n := (IntWalk.wrap64_in _ (by omega)).trans (by omega)
      rw [if_neg h9, if_pos (show o.length < 5864062014805 by omega), hq, decide_eq_false (show ¬ n < n by omega)]
      obtain ⟨k', rfl⟩ : ∃ m, k' = m + 1 := ⟨k' - 1, by omega⟩
      rw [spec_CutLength.l0, if_neg (show ¬ n < n by omega)]
      generalize o ++ [(⟨at', n - at', false⟩ : S47)] = y
      by_cases h10 : (y.length : Int) > 20
      · rw [if_pos h10]; exact ⟨_, rfl, by simp⟩
      · rw [if_neg h10]; exact ⟨_, rfl, by show y.length ≤ 20; omega⟩

theorem scut_ok (a b c : Int) (k : Nat) (hk : 100 ≤ k) : ∃ r, spec_CutLength.f k a b c = some r ∧ r.1.length ≤ 20 := by
  by_cases h : (1 ≤ a ∧ a ≤ 60) ∧ (1 ≤ c ∧ c ≤ 8) ∧ (c ≤ b ∧ b ≤ 60)
  · obtain ⟨k, rfl⟩ : ∃ m, k = m + 1 := ⟨k - 1, by omega⟩
    obtain ⟨r, e1, e2⟩ := scut_loop a b c h.1.1 h.1.2 h.2.1.1 h.2.1.2 h.2.2.1 h.2.2.2 60 k 0 [] (by omega) (by omega) (by omega) (by simp) (by omega)
    refine ⟨r, ?_, e2⟩
    unfold spec_CutLength.f
    rw [inRange_val, inRange_val, inRange_val, Option.bind_some, decide_eq_true h.1, if_pos rfl, Option.bind_some, decide_eq_true h.2.1, if_pos rfl, Option.bind_some, decide_eq_true h.2.2]
    simp only [spec_CutLength.j0, Bool.not_true, Bool.false_eq_true, if_false]
    exact e1
  · refine ⟨([], false), ?_, by simp⟩
    obtain ⟨k, rfl⟩ : ∃ m, k = m + 1 := ⟨k - 1, by omega⟩
    unfold spec_CutLength.f
    rw [inRange_val, inRange_val, inRange_val]
    simp only [Option.bind_some]
    by_cases q1 : 1 ≤ a ∧ a ≤ 60
    · rw [decide_eq_true q1, if_pos rfl]
      by_cases q2 : 1 ≤ c ∧ c ≤ 8
      · rw [decide_eq_true q2, if_pos rfl, decide_eq_false (fun q3 => h ⟨q1, q2, q3⟩)]
        simp only [spec_CutLength.j0, Bool.not_false, if_true]
      · rw [decide_eq_false q2, if_neg Bool.false_ne_true]
        simp only [spec_CutLength.j0, if_true]
    · rw [decide_eq_false q1, if_neg Bool.false_ne_true]
      simp only [spec_CutLength.j0, if_true]

theorem xor64_range (a b : Int) (ha : 0 ≤ a) (ha' : a < 1073741824) (hb : 0 ≤ b) (hb' : b < 1073741824) :
    0 ≤ Go.bits .xor .i64 a b ∧ Go.bits .xor .i64 a b < 1073741824 := by
  obtain ⟨m, rfl⟩ := Int.eq_ofNat_of_zero_le ha
  obtain ⟨n, rfl⟩ := Int.eq_ofNat_of_zero_le hb
  have hm : m < 2 ^ 30 := by omega
  have hn : n < 2 ^ 30 := by omega
  have hx : m ^^^ n < 2 ^ 30 := Nat.xor_lt_two_pow hm hn
  have hm' : m % 2 ^ IntKind.i64.bits = m := Nat.mod_eq_of_lt (Nat.lt_of_lt_of_le hm (by decide))
  have hn' : n % 2 ^ IntKind.i64.bits = n := Nat.mod_eq_of_lt (Nat.lt_of_lt_of_le hn (by decide))
  simp only [Go.bits, BitVec.ofInt_natCast, BitVec.toNat_xor, BitVec.toNat_ofNat, hm', hn']
  rw [IntWalk.i64_in ((m ^^^ n : Nat) : Int) (by omega)]
  omega

theorem rd_range (l : List Int) (hl : ∀ x ∈ l, 0 ≤ x ∧ x ≤ 255) (i : Int) : 0 ≤ rd l i ∧ rd l i ≤ 255 := by
  unfold rd
  rw [List.getD_eq_getElem?_getD]
  cases h : l[i.toNat]? with
  | none => simp
  | some v => exact hl v (List.mem_of_getElem? h)

theorem tmod_range (a n : Int) (ha : 0 ≤ a) (hn : 1 ≤ n) : 0 ≤ Int.tmod a n ∧ Int.tmod a n < n :=
  ⟨Int.tmod_nonneg n ha, Int.tmod_lt_of_pos a (by omega)⟩

theorem pick_ok (l : List Int) (hl : ∀ x ∈ l, 0 ≤ x ∧ x ≤ 255) (hn : l.length ≤ 2000) (k : Nat) (p n : Int) (hp : 0 ≤ p) (hp' : p ≤ 1000000) :
    ∃ v, spec_reader_pick.f (k + 1) l p n = some (v, p + 1) ∧ 0 ≤ v ∧ (1 ≤ n → v < n) := by
  have hw : wrap64 (p + 1) = p + 1 := IntWalk.wrap64_in _ (by omega)
  unfold spec_reader_pick.f
  rw [hw]
  by_cases h1 : n < 1
  · rw [if_pos h1]
    exact ⟨0, by simp [spec_reader_pick.j0], by omega, fun h => by omega⟩
  · rw [if_neg h1]
    by_cases h2 : l.length = 0
    · exact ⟨0, by simp [spec_reader_pick.j0, h2], by omega, fun h => by omega⟩
    · have hb : ((l.length : Int) == 0) = false := beq_eq_false_iff_ne.mpr (by omega)
      have hw1 : wrap64 (p + 1 - 1) = p := (IntWalk.wrap64_in (p + 1 - 1) (by omega)).trans (by omega)
      have hn0 : n ≠ 0 := by omega
      have hl0 : (l.length : Int) ≠ 0 := by omega
      simp only [spec_reader_pick.j0, hb, hw1, Bool.false_eq_true, if_false, hn0, hl0]
      by_cases h3 : p < (l.length : Int)
      · rw [if_pos h3, if_pos hp]
        have hr := rd_range l hl p
        rw [IntWalk.wrap64_in (rd l p) (by omega)]
        have ht := tmod_range (rd l p) n hr.1 (by omega)
        exact ⟨_, rfl, ht.1, fun _ => ht.2⟩
      · rw [if_neg h3]
        have hm1 := tmod_range p (l.length : Int) hp (by omega)
        rw [if_pos hm1.1, if_pos hm1.2]
        have hw7 : wrap64 (p * 7) = p * 7 := IntWalk.wrap64_in _ (by omega)
        have hw73 : wrap64 (p * 7 + 3) = p * 7 + 3 := IntWalk.wrap64_in _ (by omega)
        rw [hw7, hw73]
        have hm2 := tmod_range (p * 7 + 3) (l.length : Int) (by omega) (by omega)
        rw [if_pos hm2.1, if_pos hm2.2]
        have hr1 := rd_range l hl (Int.tmod p (l.length : Int))
        have hr2 := rd_range l hl (Int.tmod (p * 7 + 3) (l.length : Int))
        generalize rd l (Int.tmod p (l.length : Int)) = r1 at hr1 ⊢
        generalize rd l (Int.tmod (p * 7 + 3) (l.length : Int)) = r2 at hr2 ⊢
        have hq : 0 ≤ Int.tdiv p (l.length : Int) ∧ Int.tdiv p (l.length : Int) ≤ p := by
          rw [Int.tdiv_eq_ediv_of_nonneg hp]
          exact ⟨Int.ediv_nonneg hp (by omega), Int.ediv_le_self _ hp⟩
        generalize Int.tdiv p (l.length : Int) = q at hq ⊢
        simp (disch := omega) only [IntWalk.wrap64_in]
        have hX : 0 ≤ r1 * 131 + r2 * 1117 + p * 29 + q * 53 ∧ r1 * 131 + r2 * 1117 + p * 29 + q * 53 < 1073741824 := by omega
        generalize r1 * 131 + r2 * 1117 + p * 29 + q * 53 = X at hX ⊢
        have hd : 0 ≤ Int.tdiv X 64 ∧ Int.tdiv X 64 < 1073741824 := by
          rw [Int.tdiv_eq_ediv_of_nonneg hX.1]; omega
        rw [IntWalk.wrap64_in (Int.tdiv X 64) (by omega)]
        have hx := xor64_range X (Int.tdiv X 64) hX.1 hX.2 hd.1 hd.2
        have ht := tmod_range (Go.bits .xor .i64 X (Int.tdiv X 64)) n hx.1 (by omega)
        exact ⟨_, rfl, ht.1, fun _ => ht.2⟩

theorem reader_ok (l0 : List Int) (hw : ∀ x ∈ l0, (Lit.int .u8 x).wf = true) :
    ∃ l, spec_newReader.f l0 = some (l, 0) ∧ (∀ x ∈ l, 0 ≤ x ∧ x ≤ 255) ∧ l.length ≤ 2000 := by
  have hb : ∀ x ∈ l0, 0 ≤ x ∧ x ≤ 255 := by
    intro x hx
    have h := hw x hx
    simp [Lit.wf, IntKind.min, IntKind.max, IntKind.signed, IntKind.bits] at h
    omega
  unfold spec_newReader.f
  by_cases h : (l0.length : Int) > 2000
  · rw [if_pos h, if_pos (by omega)]
    exact ⟨_, rfl, fun x hx => hb x (List.mem_of_mem_take hx), by rw [List.length_take]; omega⟩
  · rw [if_neg h]
    exact ⟨_, rfl, hb, by omega⟩

theorem one_ok (l : List Int) (hl : ∀ x ∈ l, 0 ≤ x ∧ x ≤ 255) (hn : l.length ≤ 2000) (k : Nat) (p : Int) (xs : List Int) (hp : 0 ≤ p) (hp' : p ≤ 1000000) (hx : 1 ≤ xs.length) :
    ∃ v, spec_reader_one.f (k + 1) l p xs = some (v, p + 1) ∧ v ∈ xs := by
  obtain ⟨v, hv, h0, h1⟩ := pick_ok l hl hn k p (xs.length : Int) hp hp'
  have h2 := h1 (by omega)
  unfold spec_reader_one.f
  rw [hv]
  simp only [Option.bind_some]
  rw [if_pos h0, if_pos h2]
  refine ⟨_, rfl, ?_⟩
  unfold rd
  have h3 : v.toNat < xs.length := by omega
  rw [List.getD_eq_getElem?_getD, List.getElem?_eq_getElem h3]
  exact List.getElem_mem h3

theorem sp_j5 (l : List Int) (hb : ∀ x ∈ l, 0 ≤ x ∧ x ≤ 255) (hn : l.length ≤ 2000) (k : Nat) (hk : 2 ≤ k) (x : List S47) (p : Int) (hp : 0 ≤ p) (hp' : p ≤ 100000) :
    ∃ o p', spec_somePieces.j5 k x l p = some (o, p') ∧ o.length = x.length ∧ p ≤ p' ∧ p' ≤ p + 2 := by
  obtain ⟨k, rfl⟩ : ∃ m, k = m + 2 := ⟨k - 2, by omega⟩
  rw [spec_somePieces.j5]
  by_cases h : (x.length : Int) > 0
  · obtain ⟨v, hv, _, _⟩ := pick_ok l hb hn k p 24 hp (by omega)
    rw [if_pos h, hv, Option.bind_some]
    show ∃ o p', (if v = 0 then _ else _) = some (o, p') ∧ _
    by_cases e0 : v = 0
    · obtain ⟨u, hu, _⟩ := one_ok l hb hn k (p + 1) [-1, 60, 0] (by omega) (by omega) (by simp)
      rw [if_pos e0, hu, Option.bind_some, if_pos (by omega)]
      exact ⟨_, _, rfl, by rw [List.length_set], by omega, by omega⟩
    · rw [if_neg e0]
      by_cases e1 : v = 1
      · obtain ⟨u, hu, _⟩ := one_ok l hb hn k (p + 1) [0, 61, 2] (by omega) (by omega) (by simp)
        rw [if_pos e1, hu, Option.bind_some, if_pos (by omega)]
        exact ⟨_, _, rfl, by rw [List.length_set], by omega, by omega⟩
      · rw [if_neg e1]
        by_cases e2 : v = 2
        · rw [if_pos e2, if_pos (by omega)]
          exact ⟨_, _, rfl, by rw [List.length_set], by omega, by omega⟩
        · rw [if_neg e2]
          by_cases e3 : v = 3
          · rw [if_pos e3, if_pos (by omega)]
            exact ⟨_, _, rfl, by rw [List.length_set], by omega, by omega⟩
          · rw [if_neg e3]
            exact ⟨_, _, rfl, rfl, by omega, by omega⟩
  · rw [if_neg h]
    exact ⟨_, _, rfl, rfl, by omega, by omega⟩

theorem sp_j4 (l : List Int) (hb : ∀ x ∈ l, 0 ≤ x ∧ x ≤ 255) (hn : l.length ≤ 2000) (k : Nat) (hk : 3 ≤ k) (x : List S47) (b : Bool) (hx : x.length ≤ 100) (hxb : b = true → 1 ≤ x.length) (p : Int) (hp : 0 ≤ p) (hp' : p ≤ 90000) :
    ∃ o p', spec_somePieces.j4 k x b l p = some (o, p') ∧ o.length ≤ x.length + 1 ∧ p ≤ p' ∧ p' ≤ p + 3 := by
  obtain ⟨k, rfl⟩ : ∃ m, k = m + 2 := ⟨k - 2, by omega⟩
  rw [spec_somePieces.j4]
  cases b with
  | true =>
    have hx1 := hxb rfl
    obtain ⟨v, hv, h0, h1⟩ := pick_ok l hb hn k p x.length hp (by omega)
    have h2 := h1 (by omega)
    rw [if_pos rfl, hv, Option.bind_some, if_pos h0, if_pos h2, if_pos (by omega)]
    obtain ⟨o, p', e1, e2, e3, e4⟩ := sp_j5 l hb hn (k + 1) (by omega) (x ++ [(⟨(rd_T47 x v).f0, (rd_T47 x v).f1, (rd_T47 x v).f2⟩ : S47)]) (p + 1) (by omega) (by omega)
    exact ⟨o, p', e1, by rw [e2, List.length_append, List.length_singleton]; omega, by omega, by omega⟩
  | false =>
    obtain ⟨o, p', e1, e2, e3, e4⟩ := sp_j5 l hb hn (k + 1) (by omega) x p (by omega) (by omega)
    rw [if_neg Bool.false_ne_true]
    exact ⟨o, p', e1, by omega, by omega, by omega⟩

theorem sp_j3 (l : List Int) (hb : ∀ x ∈ l, 0 ≤ x ∧ x ≤ 255) (hn : l.length ≤ 2000) (k : Nat) (hk : 4 ≤ k) (x : List S47) (hx : x.length ≤ 100) (p : Int) (hp : 0 ≤ p) (hp' : p ≤ 80000) :
    ∃ o p', spec_somePieces.j3 k x l p = some (o, p') ∧ o.length ≤ x.length + 1 ∧ p ≤ p' ∧ p' ≤ p + 4 := by
  obtain ⟨k, rfl⟩ : ∃ m, k = m + 2 := ⟨k - 2, by omega⟩
  rw [spec_somePieces.j3]
  by_cases h : (x.length : Int) > 0
  · obtain ⟨v, hv, _, _⟩ := pick_ok l hb hn k p 3 hp (by omega)
    rw [if_pos h, hv, Option.bind_some]
    show ∃ o p', (if v = 0 then _ else _) = some (o, p') ∧ _
    by_cases e0 : v = 0
    · rw [if_pos e0]
      obtain ⟨o, p', e1, e2, e3, e4⟩ := sp_j4 l hb hn (k + 1) (by omega) x (decide ((x.length : Int) < 20)) hx (fun _ => by omega) (p + 1) (by omega) (by omega)
      exact ⟨o, p', e1, e2, by omega, by omega⟩
    · rw [if_neg e0]
      obtain ⟨o, p', e1, e2, e3, e4⟩ := sp_j4 l hb hn (k + 1) (by omega) x false hx (fun h => Bool.noConfusion h) (p + 1) (by omega) (by omega)
      exact ⟨o, p', e1, e2, by omega, by omega⟩
  · rw [if_neg h]
    obtain ⟨o, p', e1, e2, e3, e4⟩ := sp_j4 l hb hn (k + 1) (by omega) x false hx (fun h => Bool.noConfusion h) p (by omega) (by omega)
    exact ⟨o, p', e1, e2, by omega, by omega⟩

theorem sp_j2 (l : List Int) (hb : ∀ x ∈ l, 0 ≤ x ∧ x ≤ 255) (hn : l.length ≤ 2000) (k : Nat) (hk : 5 ≤ k) (x : List S47) (b : Bool) (hx : x.length ≤ 50) (hxb : b = true → 1 ≤ x.length) (p : Int) (hp : 0 ≤ p) (hp' : p ≤ 70000) :
    ∃ o p', spec_somePieces.j2 k x b l p = some (o, p') ∧ o.length ≤ x.length + 1 ∧ p ≤ p' ∧ p' ≤ p + 5 := by
  obtain ⟨k, rfl⟩ : ∃ m, k = m + 2 := ⟨k - 2, by omega⟩
  rw [spec_somePieces.j2]
  cases b with
  | true =>
    have hx1 := hxb rfl
    obtain ⟨v, hv, h0, h1⟩ := pick_ok l hb hn k p x.length hp (by omega)
    have h2 := h1 (by omega)
    have hw : wrap64 (v + 1) = v + 1 := IntWalk.wrap64_in _ (by omega)
    rw [if_pos rfl, hv, Option.bind_some]
    simp only [Option.bind_some]
    have ht : (x.take v.toNat).length ≤ x.length := by rw [List.length_take]; omega
    have hd : (x.drop (v + 1).toNat).length + (x.take v.toNat).length ≤ x.length := by rw [List.length_drop, List.length_take]; omega
    rw [if_pos h0, if_pos (by omega), if_pos (by simp only [List.length_nil]; omega), hw, if_pos (by omega), if_pos (by omega), if_pos (by rw [List.length_append, List.length_nil]; omega)]
    obtain ⟨o, p', e1, e2, e3, e4⟩ := sp_j3 l hb hn (k + 1) (by omega) (([] ++ x.take v.toNat) ++ x.drop (v + 1).toNat) (by rw [List.length_append, List.length_append, List.length_nil]; omega) (p + 1) (by omega) (by omega)
    exact ⟨o, p', e1, by rw [List.length_append, List.length_append, List.length_nil] at e2; omega, by omega, by omega⟩
  | false =>
    obtain ⟨o, p', e1, e2, e3, e4⟩ := sp_j3 l hb hn (k + 1) (by omega) x (by omega) p (by omega) (by omega)
    rw [if_neg Bool.false_ne_true]
    exact ⟨o, p', e1, by omega, by omega, by omega⟩

theorem sp_end (l : List Int) (hb : ∀ x ∈ l, 0 ≤ x ∧ x ≤ 255) (hn : l.length ≤ 2000) (k : Nat) (hk : 6 ≤ k) (x : List S47) (n : Int) (hx : x.length ≤ 50) (p : Int) (hp : 0 ≤ p) (hp' : p ≤ 60000) :
    ∃ o p', spec_somePieces.j1 k x n false l p = some (o, p') ∧ o.length ≤ x.length + 1 ∧ p ≤ p' ∧ p' ≤ p + 6 := by
  obtain ⟨k, rfl⟩ : ∃ m, k = m + 2 := ⟨k - 2, by omega⟩
  rw [spec_somePieces.j1, if_neg Bool.false_ne_true]
  by_cases h : (x.length : Int) > 1
  · obtain ⟨v, hv, _, _⟩ := pick_ok l hb hn k p 3 hp (by omega)
    rw [if_pos h, hv, Option.bind_some]
    obtain ⟨o, p', e1, e2, e3, e4⟩ := sp_j2 l hb hn (k + 1) (by omega) x (v == 0) hx (fun _ => by omega) (p + 1) (by omega) (by omega)
    exact ⟨o, p', e1, e2, by omega, by omega⟩
  · rw [if_neg h]
    obtain ⟨o, p', e1, e2, e3, e4⟩ := sp_j2 l hb hn (k + 1) (by omega) x false hx (fun h => Bool.noConfusion h) p (by omega) (by omega)
    exact ⟨o, p', e1, e2, by omega, by omega⟩

theorem sp_l0 (l : List Int) (hb : ∀ x ∈ l, 0 ≤ x ∧ x ≤ 255) (hn : l.length ≤ 2000) : ∀ (d k : Nat) (x : List S47) (n p : Int), x.length ≤ 50 → 0 ≤ n → n ≤ d → n ≤ 100 → 0 ≤ p → p + 2 * d ≤ 50000 → 2 * d + 8 ≤ k →
    ∃ o p', spec_somePieces.l0 k x n l p = some (o, p') ∧ o.length ≤ x.length + 1 ∧ p ≤ p' ∧ p' ≤ p + 2 * d + 6 := by
  intro d
  induction d with
  | zero =>
    intro k x n p hx h0 h1 h2 h3 h4 hk
    obtain ⟨k, rfl⟩ : ∃ m, k = m + 2 := ⟨k - 2, by omega⟩
    obtain ⟨o, p', e1, e2, e3, e4⟩ := sp_end l hb hn (k + 1) (by omega) x n hx p (by omega) (by omega)
    rw [spec_somePieces.l0, if_neg (by omega)]
    exact ⟨o, p', e1, e2, by omega, by omega⟩
  | succ d ih =>
    intro k x n p hx h0 h1 h2 h3 h4 hk
    obtain ⟨k, rfl⟩ : ∃ m, k = m + 3 := ⟨k - 3, by omega⟩
    rw [spec_somePieces.l0]
    by_cases hn0 : n > 0
    · rw [if_pos hn0]
      by_cases hx1 : (x.length : Int) > 1
      · obtain ⟨v, hv, v0, v1⟩ := pick_ok l hb hn k p x.length h3 (by omega)
        obtain ⟨u, hu, u0, u1⟩ := pick_ok l hb hn k (p + 1) x.length (by omega) (by omega)
        rw [decide_eq_true hx1, spec_somePieces.j1, if_pos rfl, hv, Option.bind_some]
        simp only [hu, Option.bind_some]
        rw [if_pos v0, if_pos (v1 (by omega)), if_pos u0, if_pos (u1 (by omega)), IntWalk.wrap64_in (n - 1) (by omega)]
        have key : ∀ z : List S47, z.length = x.length → ∃ o p', spec_somePieces.l0 (k + 1) z (n - 1) l (p + 1 + 1) = some (o, p') ∧ o.length ≤ x.length + 1 ∧ p ≤ p' ∧ p' ≤ p + 2 * ((d + 1 : Nat) : Int) + 6 := by
          intro z hz
          obtain ⟨o, p', e1, e2, e3, e4⟩ := ih (k + 1) z (n - 1) (p + 1 + 1) (by omega) (by omega) (by omega) (by omega) (by omega) (by omega) (by omega)
          exact ⟨o, p', e1, by omega, by omega, by omega⟩
        exact key _ (by rw [List.length_set, List.length_set])
      · rw [decide_eq_false hx1]
        obtain ⟨o, p', e1, e2, e3, e4⟩ := sp_end l hb hn (k + 2) (by omega) x n hx p (by omega) (by omega)
        exact ⟨o, p', e1, e2, by omega, by omega⟩
    · rw [if_neg hn0]
      obtain ⟨o, p', e1, e2, e3, e4⟩ := sp_end l hb hn (k + 2) (by omega) x n hx p (by omega) (by omega)
      exact ⟨o, p', e1, e2, by omega, by omega⟩

theorem somePieces_ok (l : List Int) (hb : ∀ x ∈ l, 0 ≤ x ∧ x ≤ 255) (hn : l.length ≤ 2000) (k : Nat) (hk : 100 ≤ k) :
    ∃ o p', spec_somePieces.f k l 0 = some (o, p') ∧ o.length ≤ 21 ∧ 0 ≤ p' ∧ p' ≤ 100 := by
  obtain ⟨k, rfl⟩ : ∃ m, k = m + 1 := ⟨k - 1, by omega⟩
  obtain ⟨a, ha, _⟩ := one_ok l hb hn k 0 [20, 12, 30, 8, 1, 60] (by omega) (by omega) (by simp)
  obtain ⟨b, hb1, _⟩ := one_ok l hb hn k (0 + 1) [4, 8, 6, 3, 12] (by omega) (by omega) (by simp)
  obtain ⟨c, hc, _⟩ := one_ok l hb hn k (0 + 1 + 1) [1, 2, 1, 3] (by omega) (by omega) (by simp)
  obtain ⟨d, hd, hm⟩ := one_ok l hb hn k (0 + 1 + 1 + 1) [0, 2, 4, 1] (by omega) (by omega) (by simp)
  obtain ⟨r, hr, hl⟩ := scut_ok a b c (k + 1) hk
  simp only [List.mem_cons, List.not_mem_nil, or_false] at hm
  unfold spec_somePieces.f
  simp only [ha, hb1, hc, hd, hr, Option.bind_some]
  rw [if_pos (by simp only [List.length_nil]; omega)]
  obtain ⟨o, p', e1, e2, e3, e4⟩ := sp_l0 l hb hn 4 (k + 1) ([] ++ r.1) d (0 + 1 + 1 + 1 + 1) (by rw [List.nil_append]; omega) (by omega) (by omega) (by omega) (by omega) (by omega) (by omega)
  exact ⟨o, p', e1, by rw [List.nil_append] at e2; omega, by omega, by omega⟩

theorem endLaw_l0 (l : List S47) (hl : l.length ≤ 21) (out : Int) (hb : out ≥ 0 → ∀ x ∈ l, ¬ sE x > out)
    (hm : ∀ (m : List S47), (out < 0 ∧ m = l) ∨ (∃ y ∈ l, y.f2 = false ∧ sE y = out ∧ m = l ++ [y]) → ∀ k, 50 ≤ k → ∃ r, impl_EndOf.f k m = some r ∧ (m.length ≤ 20 → r = (out, true)))
    (hex : out ≥ 0 → ∃ x ∈ l, x.f2 = false ∧ sE x = out) :
    ∀ (d k i : Nat) (met : Bool) (m : List S47), i + d = l.length → 2 * d + 60 ≤ k →
    ((met = true ∧ ((out < 0 ∧ m = l) ∨ (∃ y ∈ l, y.f2 = false ∧ sE y = out ∧ m = l ++ [y]))) ∨ (met = false ∧ out ≥ 0 ∧ m = l ∧ ∃ x ∈ l.drop i, x.f2 = false ∧ sE x = out)) →
    laws_FnEndOf.l0 k l out met m (i : Int) = some true := by
  intro d
  induction d with
  | zero =>
    intro k i met m hi hk hr
    obtain ⟨k, rfl⟩ : ∃ m, k = m + 1 := ⟨k - 1, by omega⟩
    rw [laws_FnEndOf.l0, if_neg (show ¬ (i : Int) < (l.length : Int) by omega)]
    rcases hr with ⟨rfl, hr⟩ | ⟨_, _, _, x, hx, _⟩
    · obtain ⟨r, e1, e2⟩ := hm m hr k (by omega)
      rw [e1, Option.bind_some, if_pos rfl]
      by_cases h : (m.length : Int) > 20
      · rw [if_pos h]
      · rw [if_neg h, e2 (by omega), if_pos rfl, beq_self_eq_true]
    · rw [List.drop_eq_nil_of_le (by omega)] at hx
      cases hx
  | succ d ih =>
    intro k i met m hi hk hr
    obtain ⟨k, rfl⟩ : ∃ m, k = m + 2 := ⟨k - 2, by omega⟩
    have hil : i < l.length := by omega
    rw [laws_FnEndOf.l0, if_pos (show (i : Int) < (l.length : Int) by omega), if_pos (show (0 : Int) ≤ (i : Int) by omega), rdP47_nat l i hil]
    have hmem : l[i] ∈ l := List.getElem_mem _
    have hdrop := List.drop_eq_getElem_cons hil
    have hrd := rdP47_nat l i hil
    generalize l[i]'hil = x at hmem hdrop hrd
    have es : wrap64 (x.f0 + x.f1) = sE x := rfl
    rw [es]
    have next : ∀ (met' : Bool) (m' : List S47), ((met' = true ∧ ((out < 0 ∧ m' = l) ∨ (∃ y ∈ l, y.f2 = false ∧ sE y = out ∧ m' = l ++ [y]))) ∨ (met' = false ∧ out ≥ 0 ∧ m' = l ∧ ∃ x ∈ l.drop (i + 1), x.f2 = false ∧ sE x = out)) →
        (if out ≥ 0 then (if sE x > out then some false else laws_FnEndOf.l0 k l out met' m' (wrap64 ((i : Int) + 1))) else laws_FnEndOf.l0 k l out met' m' (wrap64 ((i : Int) + 1))) = some true := by
      intro met' m' hr'
      rw [step_nat i (by omega), ih k (i + 1) met' m' (by omega) (by omega) hr']
      by_cases h : out ≥ 0
      · rw [if_pos h, if_neg (hb h x hmem)]
      · rw [if_neg h]
    have stay : laws_FnEndOf.j2 (k + 1) l out met m (i : Int) (sE x) false = (if out ≥ 0 then (if sE x > out then some false else laws_FnEndOf.l0 k l out met m (wrap64 ((i : Int) + 1))) else laws_FnEndOf.l0 k l out met m (wrap64 ((i : Int) + 1))) := by
      rw [laws_FnEndOf.j2, if_neg Bool.false_ne_true]
    by_cases h1 : x.f2 = true
    · rw [if_pos h1, stay]
      refine next met m ?_
      rcases hr with hr | ⟨r1, r2, r3, y, hy, r4⟩
      · exact .inl hr
      · refine .inr ⟨r1, r2, r3, y, ?_, r4⟩
        rw [hdrop] at hy
        rcases List.mem_cons.1 hy with rfl | hy
        · rw [h1] at r4; exact absurd r4.1 (by decide)
        · exact hy
    · have h1' := Bool.eq_false_iff.mpr h1
      rw [if_neg h1]
      by_cases h2 : sE x = out
      · rw [if_pos h2]
        rcases hr with ⟨rfl, hr⟩ | ⟨rfl, r2, rfl, _⟩
        · rw [Bool.not_true, stay]
          exact next true m (.inl ⟨rfl, hr⟩)
        · rw [Bool.not_false, laws_FnEndOf.j2, if_pos rfl, if_pos (show (0 : Int) ≤ (i : Int) by omega), if_pos (show (i : Int) < (m.length : Int) by omega), if_pos (show m.length < 5864062014805 by omega), Option.bind_some, hrd]
          exact next true _ (.inl ⟨rfl, .inr ⟨x, hmem, h1', h2, rfl⟩⟩)
      · rw [if_neg h2, stay]
        refine next met m ?_
        rcases hr with hr | ⟨r1, r2, r3, y, hy, r4⟩
        · exact .inl hr
        · refine .inr ⟨r1, r2, r3, y, ?_, r4⟩
          rw [hdrop] at hy
          rcases List.mem_cons.1 hy with rfl | hy
          · exact absurd r4.2 h2
          · exact hy

theorem FnEndOf : laws_FnEndOf.Pure := by
  intro l0 _ _ hw
  refine ⟨300, ?_⟩
  unfold laws_FnEndOf.f
  by_cases hc : (l0.length : Int) > 1048576
  · rw [if_pos hc]
  · obtain ⟨b, hr, hb, hn⟩ := reader_ok l0 hw
    obtain ⟨o, p', e1, e2, _, _⟩ := somePieces_ok b hb hn 300 (by omega)
    have hd : spec_DrawEndOf.f 300 l0 = some o := by
      unfold spec_DrawEndOf.f
      rw [hr, Option.bind_some, e1, Option.bind_some]
    rw [if_neg hc, hd, Option.bind_some, implEnd_ok o (by omega) 300 (by omega), Option.bind_some, specEnd_ok o (by omega) 300 (by omega), Option.bind_some, if_pos rfl, bne_self_eq_false, if_neg Bool.false_ne_true, laws_FnEndOf.j0]
    cases hq : (endM o).2 with
    | false => rw [Bool.not_false, if_pos rfl, if_pos rfl]; rfl
    | true =>
      rw [Bool.not_true, if_neg Bool.false_ne_true, Option.bind_some, if_pos (show ([] : List S47).length + o.length < 5864062014805 by simp only [List.length_nil]; omega), List.nil_append]
      have hok : okP o = true := by
        apply Decidable.byContradiction
        intro h
        unfold endM at hq
        rw [if_neg h] at hq
        cases hq
      have hpos := okP_pos o hok
      have hE : endM o = finI o (scanE o (-1)) := by unfold endM; rw [if_pos hok]
      rw [hE] at hq ⊢
      cases hs : scanE o (-1) with
      | none => rw [hs] at hq; cases hq
      | some e =>
        obtain ⟨_, g2, g3⟩ := scanE_facts o (-1) e hpos hs
        have hfin : finI o (some e) = (e, true) ∧ (e ≥ 0 → o.any (hand_endP e) = false) := by
          rw [hs] at hq
          rw [finI] at hq ⊢
          by_cases h : e ≥ 0
          · rw [if_pos h] at hq ⊢
            by_cases h2 : o.any (hand_endP e) = true
            · rw [if_pos h2] at hq; cases hq
            · rw [if_neg h2]; exact ⟨rfl, fun _ => Bool.eq_false_iff.mpr h2⟩
          · rw [if_neg h]; exact ⟨rfl, fun h' => absurd h' h⟩
        rw [hfin.1]
        have hx2 : e ≥ 0 → ∃ x ∈ o, x.f2 = false ∧ sE x = e := fun h => by
          rcases g3 with g3 | g3
          · omega
          · exact g3
        have hneg : ¬ e ≥ 0 → e = -1 := fun h => by
          rcases g3 with g3 | ⟨x, hx, _, g⟩
          · exact g3
          · have := hpos x hx; omega
        refine endLaw_l0 o e2 e ?_ ?_ hx2 o.length 299 0 (e == -1) o (by omega) (by omega) ?_
        · intro h x hx
          have ha := hfin.2 h
          cases hf : x.f2 with
          | false => have := g2 x hx hf; omega
          | true =>
            intro hgt
            have : o.any (hand_endP e) = true := by
              rw [List.any_eq_true]
              refine ⟨x, hx, ?_⟩
              unfold hand_endP
              rw [hf, Bool.true_and]
              exact decide_eq_true (show e ≤ sE x by omega)
            rw [this] at ha
            cases ha
        · intro m hm k hk
          have hml : m.length ≤ 22 := by
            rcases hm with ⟨_, rfl⟩ | ⟨y, _, _, _, rfl⟩
            · omega
            · rw [List.length_append, List.length_singleton]; omega
          refine ⟨endM m, implEnd_ok m (by omega) k (by omega), fun h20 => ?_⟩
          rcases hm with ⟨_, rfl⟩ | ⟨y, hy, hyf, hys, rfl⟩
          · rw [hE, hs, hfin.1]
          · have hok2 : okP (o ++ [y]) = true := by
              unfold okP at hok ⊢
              rw [Bool.and_eq_true, List.all_eq_true] at hok
              rw [Bool.and_eq_true, List.all_eq_true]
              refine ⟨fun z hz => ?_, decide_eq_true h20⟩
              rcases List.mem_append.1 hz with hz | hz
              · exact hok.1 z hz
              · rw [List.mem_singleton.1 hz]; exact hok.1 y hy
            have he0 : e ≥ 0 := by have := hpos y hy; omega
            unfold endM
            rw [if_pos hok2, scanE_append, hs, Option.bind_some, scanE, if_neg (by rw [hyf]; decide), if_pos he0, if_pos hys, scanE, hys, finI, if_pos he0, List.any_append, hfin.2 he0, Bool.false_or, List.any_cons, List.any_nil, Bool.or_false]
            unfold hand_endP
            rw [hyf, Bool.false_and, if_neg Bool.false_ne_true]
        · by_cases h : e ≥ 0
          · rw [beq_eq_false_iff_ne.mpr (show e ≠ -1 by omega)]
            exact .inr ⟨rfl, h, rfl, by rw [List.drop_zero]; exact hx2 h⟩
          · rw [beq_iff_eq.mpr (hneg h)]
            exact .inl ⟨rfl, .inl ⟨by omega, rfl⟩⟩

end Go.Proofs.Ytghnljpimkchhaa.Pure
