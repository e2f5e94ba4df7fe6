/- The program's Agree tells what the reference's tells of two drawn offers, does so either way round, and what they agree on is closed and cannot grow: FnAgree returns true for every list of bytes. Conditions: none. -/
import Derived.Test.YtnolmimfpnngjaaHFnAgreex6
namespace Go.Proofs.Ytnolmimfpnngjaa.Pure
open Go.RowKit Go.Proofs.Ytnolmimfpnngjaa.HFnAgree Go.Proofs.YtnolmimfpnngjaaW.PrintWords Go.Proofs.YtnolmimfpnngjaaW.PrintLast
open Go
set_option linter.unusedVariables false
set_option linter.unusedSimpArgs false

theorem rd_nat (l : List Int) (i : Nat) (h : i < l.length) : rd l (i : Int) = l[i] := by
  unfold rd
  rw [Int.toNat_natCast, List.getD_eq_getElem?_getD, List.getElem?_eq_getElem h]
  rfl

theorem step_nat (i : Nat) (h : i < 4611686018427387904) : wrap64 ((i : Int) + 1) = ((i + 1 : Nat) : Int) := by
  rw [IntWalk.wrap64_in ((i : Int) + 1) (by omega)]
  rfl

def mem (x : Int) (i : Nat) : Bool := x.toNat.testBit i
def M5 (x : Int) : Prop := 0 ≤ x ∧ x ≤ 31
def sub5 (a b : Int) : Prop := ∀ i, i < 5 → mem a i = true → mem b i = true

theorem lift5 (x : Int) (h : M5 x) : ∃ a : Fin 32, x = ((a.val : Nat) : Int) := by
  unfold M5 at h
  exact ⟨⟨x.toNat, by omega⟩, by show x = ((x.toNat : Nat) : Int); omega⟩

theorem fand : ∀ a b : Fin 32, (0 ≤ Go.bits .and .i64 (a.val : Int) (b.val : Int) ∧ Go.bits .and .i64 (a.val : Int) (b.val : Int) ≤ 31) ∧ ∀ i : Fin 5, mem (Go.bits .and .i64 (a.val : Int) (b.val : Int)) i.val = (mem (a.val : Int) i.val && mem (b.val : Int) i.val) := by decide +kernel
theorem for5 : ∀ a b : Fin 32, (0 ≤ Go.bits .or .i64 (a.val : Int) (b.val : Int) ∧ Go.bits .or .i64 (a.val : Int) (b.val : Int) ≤ 31) := by decide +kernel
theorem fandNot : ∀ a b : Fin 32, (Go.bits .andNot .i64 (a.val : Int) (b.val : Int) = 0) ↔ (∀ i : Fin 5, mem (a.val : Int) i.val = true → mem (b.val : Int) i.val = true) := by decide +kernel
theorem fandEq : ∀ a b : Fin 32, (Go.bits .and .i64 (a.val : Int) (b.val : Int) = (a.val : Int)) ↔ (∀ i : Fin 5, mem (a.val : Int) i.val = true → mem (b.val : Int) i.val = true) := by decide +kernel
theorem fbit : ∀ (a : Fin 32) (i : Fin 5), (Go.bits .and .i64 (shr .i64 (a.val : Int) (i.val : Int)) 1 = 1) ↔ mem (a.val : Int) i.val = true := by decide +kernel
theorem frem : ∀ (a : Fin 32) (i : Fin 5), mem (a.val : Int) i.val = true → (0 ≤ Go.bits .andNot .i64 (a.val : Int) (shl .i64 1 (i.val : Int)) ∧ Go.bits .andNot .i64 (a.val : Int) (shl .i64 1 (i.val : Int)) < (a.val : Int)) ∧ ∀ j : Fin 5, mem (Go.bits .andNot .i64 (a.val : Int) (shl .i64 1 (i.val : Int))) j.val = (mem (a.val : Int) j.val && decide (j.val ≠ i.val)) := by decide +kernel
theorem fpow : ∀ (a : Fin 32) (i : Fin 5), Int.tmod (wrap64 (Int.tdiv (a.val : Int) ((2 ^ i.val : Nat) : Int))) 2 = if mem (a.val : Int) i.val = true then 1 else 0 := by decide +kernel
theorem fadd : ∀ (a : Fin 32) (i : Fin 5), (a.val : Int) < ((2 ^ i.val : Nat) : Int) → (0 ≤ wrap64 ((a.val : Int) + ((2 ^ i.val : Nat) : Int)) ∧ wrap64 ((a.val : Int) + ((2 ^ i.val : Nat) : Int)) < ((2 ^ (i.val + 1) : Nat) : Int)) ∧ ∀ j : Fin 5, mem (wrap64 ((a.val : Int) + ((2 ^ i.val : Nat) : Int))) j.val = (mem (a.val : Int) j.val || decide (j.val = i.val)) := by decide +kernel
theorem fext : ∀ a b : Fin 32, (∀ i : Fin 5, mem (a.val : Int) i.val = mem (b.val : Int) i.val) → a = b := by decide +kernel
theorem fle : ∀ a b : Fin 32, (∀ i : Fin 5, mem (a.val : Int) i.val = true → mem (b.val : Int) i.val = true) → (a.val : Int) ≤ (b.val : Int) := by decide +kernel
theorem forp : ∀ (a : Fin 32) (i j : Fin 5), mem (Go.bits .or .i64 (a.val : Int) ((2 ^ i.val : Nat) : Int)) j.val = (mem (a.val : Int) j.val || decide (j.val = i.val)) := by decide +kernel
theorem fpow5 : ∀ i : Fin 5, (0 : Int) ≤ ((2 ^ i.val : Nat) : Int) ∧ ((2 ^ i.val : Nat) : Int) ≤ 31 := by decide +kernel

theorem and_M (x y : Int) (hx : M5 x) (hy : M5 y) : M5 (Go.bits .and .i64 x y) := by
  obtain ⟨a, rfl⟩ := lift5 x hx
  obtain ⟨b, rfl⟩ := lift5 y hy
  exact (fand a b).1
theorem and_mem (x y : Int) (hx : M5 x) (hy : M5 y) (i : Nat) (hi : i < 5) : mem (Go.bits .and .i64 x y) i = (mem x i && mem y i) := by
  obtain ⟨a, rfl⟩ := lift5 x hx
  obtain ⟨b, rfl⟩ := lift5 y hy
  exact (fand a b).2 ⟨i, hi⟩
theorem or_M (x y : Int) (hx : M5 x) (hy : M5 y) : M5 (Go.bits .or .i64 x y) := by
  obtain ⟨a, rfl⟩ := lift5 x hx
  obtain ⟨b, rfl⟩ := lift5 y hy
  exact for5 a b
theorem andNot_sub (x y : Int) (hx : M5 x) (hy : M5 y) : Go.bits .andNot .i64 x y = 0 ↔ sub5 x y := by
  obtain ⟨a, rfl⟩ := lift5 x hx
  obtain ⟨b, rfl⟩ := lift5 y hy
  exact (fandNot a b).trans ⟨fun h i hi => h ⟨i, hi⟩, fun h i => h i.val i.isLt⟩
theorem and_sub (x y : Int) (hx : M5 x) (hy : M5 y) : Go.bits .and .i64 x y = x ↔ sub5 x y := by
  obtain ⟨a, rfl⟩ := lift5 x hx
  obtain ⟨b, rfl⟩ := lift5 y hy
  exact (fandEq a b).trans ⟨fun h i hi => h ⟨i, hi⟩, fun h i => h i.val i.isLt⟩
theorem bit_mem (x : Int) (hx : M5 x) (i : Nat) (hi : i < 5) : Go.bits .and .i64 (shr .i64 x (i : Int)) 1 = 1 ↔ mem x i = true := by
  obtain ⟨a, rfl⟩ := lift5 x hx
  exact fbit a ⟨i, hi⟩
theorem rem_ok (x : Int) (hx : M5 x) (i : Nat) (hi : i < 5) (hm : mem x i = true) : (0 ≤ Go.bits .andNot .i64 x (shl .i64 1 (i : Int)) ∧ Go.bits .andNot .i64 x (shl .i64 1 (i : Int)) < x) ∧ ∀ j, j < 5 → mem (Go.bits .andNot .i64 x (shl .i64 1 (i : Int))) j = (mem x j && decide (j ≠ i)) := by
  obtain ⟨a, rfl⟩ := lift5 x hx
  have h := frem a ⟨i, hi⟩ hm
  exact ⟨h.1, fun j hj => h.2 ⟨j, hj⟩⟩
theorem pow_mem (x : Int) (hx : M5 x) (i : Nat) (hi : i < 5) : Int.tmod (wrap64 (Int.tdiv x ((2 ^ i : Nat) : Int))) 2 = if mem x i = true then 1 else 0 := by
  obtain ⟨a, rfl⟩ := lift5 x hx
  exact fpow a ⟨i, hi⟩
theorem add_ok (x : Int) (hx : M5 x) (i : Nat) (hi : i < 5) (h : x < ((2 ^ i : Nat) : Int)) : (0 ≤ wrap64 (x + ((2 ^ i : Nat) : Int)) ∧ wrap64 (x + ((2 ^ i : Nat) : Int)) < ((2 ^ (i + 1) : Nat) : Int)) ∧ ∀ j, j < 5 → mem (wrap64 (x + ((2 ^ i : Nat) : Int))) j = (mem x j || decide (j = i)) := by
  obtain ⟨a, rfl⟩ := lift5 x hx
  have h := fadd a ⟨i, hi⟩ h
  exact ⟨h.1, fun j hj => h.2 ⟨j, hj⟩⟩
theorem ext5 (x y : Int) (hx : M5 x) (hy : M5 y) (h : ∀ i, i < 5 → mem x i = mem y i) : x = y := by
  obtain ⟨a, rfl⟩ := lift5 x hx
  obtain ⟨b, rfl⟩ := lift5 y hy
  rw [fext a b (fun i => h i.val i.isLt)]
theorem le5 (x y : Int) (hx : M5 x) (hy : M5 y) (h : sub5 x y) : x ≤ y := by
  obtain ⟨a, rfl⟩ := lift5 x hx
  obtain ⟨b, rfl⟩ := lift5 y hy
  exact fle a b (fun i => h i.val i.isLt)
theorem orp_mem (x : Int) (hx : M5 x) (i : Nat) (hi : i < 5) (j : Nat) (hj : j < 5) : mem (Go.bits .or .i64 x ((2 ^ i : Nat) : Int)) j = (mem x j || decide (j = i)) := by
  obtain ⟨a, rfl⟩ := lift5 x hx
  exact forp a ⟨i, hi⟩ ⟨j, hj⟩
theorem antisymm5 (x y : Int) (hx : M5 x) (hy : M5 y) (h1 : sub5 x y) (h2 : sub5 y x) : x = y := by
  apply ext5 x y hx hy
  intro i hi
  cases a : mem x i <;> cases b : mem y i
  · rfl
  · exact absurd (h2 i hi b) (by rw [a]; exact Bool.false_ne_true)
  · exact absurd (h1 i hi a) (by rw [b]; exact Bool.false_ne_true)
  · rfl
theorem lt5 (x : Int) (i : Nat) (h : x < ((2 ^ i : Nat) : Int)) (hi : i ≤ 5) : x ≤ 31 := by
  have : (2 : Nat) ^ i ≤ 2 ^ 5 := Nat.pow_le_pow_right (by omega) hi
  omega

/-- A set of skills that holds what each of its own needs. -/
def clo (nd : Nat → Int) (x : Int) : Prop := ∀ i, i < 5 → mem x i = true → sub5 (nd i) x
/-- It holds every closed set within X. -/
def top (nd : Nat → Int) (X x : Int) : Prop := ∀ z, M5 z → clo nd z → sub5 z X → sub5 z x
def best (nd : Nat → Int) (X x : Int) : Prop := M5 x ∧ clo nd x ∧ top nd X x ∧ sub5 x X

theorem best_unique (nd : Nat → Int) (X x y : Int) (hx : best nd X x) (hy : best nd X y) : x = y :=
  antisymm5 x y hx.1 hy.1 (hy.2.2.1 x hx.1 hx.2.1 hx.2.2.2) (hx.2.2.1 y hy.1 hy.2.1 hy.2.2.2)
def needs (al bl : List Int) (i : Nat) : Int := Go.bits .or .i64 (rd al (i : Int)) (rd bl (i : Int))

theorem implAgree_l1 (a0 a1 a2 : Int) (al : List Int) (b0 b1 b2 : Int) (bl : List Int) (ha : al.length = 5) (hb : bl.length = 5) (hn : ∀ i, i < 5 → M5 (needs al bl i)) (X : Int) :
    ∀ (n : Nat) (x : Int) (i : Nat) (b : Bool) (k : Nat), 12 * x.toNat + (if b = true then 6 else 0) + (5 - i) ≤ n → 2 * n + 2 < k → M5 x → top (needs al bl) X x → sub5 x X → i ≤ 5 → (b = false → ∀ j, j < i → mem x j = true → sub5 (needs al bl j) x) →
    ∃ r, impl_Agree.l1 k x b (i : Int) a0 a1 a2 al b0 b1 b2 bl = some (mn a1 b1, r, true) ∧ best (needs al bl) X r := by
  intro n
  induction n with
  | zero =>
    intro x i b k h1 hk hM hT hS hi hB
    have hi5 : i = 5 := by omega
    subst hi5
    have hb0 : b = false := by
      cases b
      · rfl
      · simp at h1
    subst hb0
    obtain ⟨k, rfl⟩ : ∃ m, k = m + 2 := ⟨k - 2, by omega⟩
    rw [impl_Agree.l1, if_neg (by omega), impl_Agree.l0, if_neg Bool.false_ne_true]
    exact ⟨x, rfl, hM, hB rfl, hT, hS⟩
  | succ n ih =>
    intro x i b k h1 hk hM hT hS hi hB
    by_cases hi5 : i = 5
    · subst hi5
      obtain ⟨k, rfl⟩ : ∃ m, k = m + 2 := ⟨k - 2, by omega⟩
      rw [impl_Agree.l1, if_neg (by omega), impl_Agree.l0]
      cases b
      · rw [if_neg Bool.false_ne_true]
        exact ⟨x, rfl, hM, hB rfl, hT, hS⟩
      · rw [if_pos rfl]
        rw [if_pos rfl] at h1
        exact ih x 0 false k (by rw [if_neg Bool.false_ne_true]; omega) (by omega) hM hT hS (by omega) (fun _ j hj => absurd hj (Nat.not_lt_zero _))
    · obtain ⟨k, rfl⟩ : ∃ m, k = m + 1 := ⟨k - 1, by omega⟩
      rw [impl_Agree.l1, if_pos (by omega), if_pos (by omega), step_nat i (by omega)]
      by_cases hm : mem x i = true
      · rw [if_pos ((bit_mem x hM i (by omega)).2 hm), if_pos (by omega), if_pos (by omega)]
        by_cases hs : sub5 (needs al bl i) x
        · rw [if_pos (show Go.bits .andNot .i64 (Go.bits .or .i64 (rd al (i : Int)) (rd bl (i : Int))) x = 0 from (andNot_sub _ x (hn i (by omega)) hM).2 hs)]
          refine ih x (i + 1) b k (by omega) (by omega) hM hT hS (by omega) ?_
          intro hbf j hj hmj
          by_cases e : j = i
          · rw [e]; exact hs
          · exact hB hbf j (by omega) hmj
        · rw [if_neg (show ¬ Go.bits .andNot .i64 (Go.bits .or .i64 (rd al (i : Int)) (rd bl (i : Int))) x = 0 from fun h => hs ((andNot_sub _ x (hn i (by omega)) hM).1 h))]
          have hr := rem_ok x hM i (by omega) hm
          generalize Go.bits .andNot .i64 x (shl .i64 1 (i : Int)) = x' at hr ⊢
          unfold M5 at hM
          have hM' : M5 x' := ⟨hr.1.1, by omega⟩
          refine ih x' (i + 1) true k (by rw [if_pos rfl]; omega) (by omega) hM' ?_ ?_ (by omega) (fun h => by cases h)
          · intro z hz hc hzX j hj hzj
            rw [hr.2 j hj, hT z hz hc hzX j hj hzj, Bool.true_and]
            apply decide_eq_true
            intro e
            subst e
            exact hs (fun l hl hnl => hT z hz hc hzX l hl (hc j hj hzj l hl hnl))
          · intro j hj hxj
            rw [hr.2 j hj] at hxj
            exact hS j hj (Bool.and_eq_true_iff.1 hxj).1
      · rw [if_neg (fun h => hm ((bit_mem x hM i (by omega)).1 h))]
        refine ih x (i + 1) b k (by omega) (by omega) hM hT hS (by omega) ?_
        intro hbf j hj hmj
        by_cases e : j = i
        · rw [e] at hmj; exact absurd hmj hm
        · exact hB hbf j (by omega) hmj

theorem implAgree_l0 (a0 a1 a2 : Int) (al : List Int) (b0 b1 b2 : Int) (bl : List Int) (ha : al.length = 5) (hb : bl.length = 5) (hn : ∀ i, i < 5 → M5 (needs al bl i)) (X : Int) (hX : M5 X) (k : Nat) (hk : 900 ≤ k) :
    ∃ r, impl_Agree.l0 k X true a0 a1 a2 al b0 b1 b2 bl = some (mn a1 b1, r, true) ∧ best (needs al bl) X r := by
  obtain ⟨k, rfl⟩ : ∃ m, k = m + 1 := ⟨k - 1, by omega⟩
  rw [impl_Agree.l0, if_pos rfl]
  have h : X.toNat ≤ 31 := by unfold M5 at hX; omega
  exact implAgree_l1 a0 a1 a2 al b0 b1 b2 bl ha hb hn X 400 X 0 false k (by rw [if_neg Bool.false_ne_true]; omega) (by omega) hX (fun z _ _ h => h) (fun i _ h => h) (by omega) (fun _ j hj => absurd hj (Nat.not_lt_zero _))

/-- What ValidOffer tells. -/
def okO (a b c : Int) (l : List Int) : Bool :=
  decide (0 ≤ a ∧ a ≤ 20) && decide (a ≤ b ∧ b ≤ 20) && decide (0 ≤ c ∧ c ≤ 31) && decide (l.length = 5) && !(l.any fun n => !decide (0 ≤ n ∧ n ≤ 31))

theorem implValid_val (a b c : Int) (l : List Int) : impl_ValidOffer.f a b c l = some (okO a b c l) := rfl

theorem okO_iff (a b c : Int) (l : List Int) : okO a b c l = true ↔ (0 ≤ a ∧ a ≤ 20) ∧ (a ≤ b ∧ b ≤ 20) ∧ M5 c ∧ l.length = 5 ∧ ∀ x ∈ l, M5 x := by
  simp only [okO, Bool.and_eq_true, Bool.not_eq_true', List.any_eq_false, Bool.not_eq_false, decide_eq_true_eq, M5, Bool.not_eq_true, decide_eq_false_iff_not, Decidable.not_not, and_assoc]

theorem rd_M (l : List Int) (h : ∀ x ∈ l, M5 x) (i : Nat) (hi : i < l.length) : M5 (rd l (i : Int)) := by
  rw [rd_nat l i hi]; exact h _ (List.getElem_mem _)

theorem needs_M (al bl : List Int) (ha : al.length = 5) (hb : bl.length = 5) (h1 : ∀ x ∈ al, M5 x) (h2 : ∀ x ∈ bl, M5 x) : ∀ i, i < 5 → M5 (needs al bl i) := by
  intro i hi
  exact or_M _ _ (rd_M al h1 i (by omega)) (rd_M bl h2 i (by omega))

theorem implAgree_bad (a0 a1 a2 : Int) (al : List Int) (b0 b1 b2 : Int) (bl : List Int) (h : ¬ (okO a0 a1 a2 al = true ∧ okO b0 b1 b2 bl = true ∧ ¬ mn a1 b1 < mx a0 b0)) (k : Nat) (hk : 1 ≤ k) : impl_Agree.f k a0 a1 a2 al b0 b1 b2 bl = some (-1, 0, false) := by
  obtain ⟨k, rfl⟩ : ∃ m, k = m + 1 := ⟨k - 1, by omega⟩
  unfold impl_Agree.f
  rw [implValid_val, implValid_val, Option.bind_some, Option.bind_some]
  by_cases h1 : okO a0 a1 a2 al = true
  · by_cases h2 : okO b0 b1 b2 bl = true
    · have h3 : mn a1 b1 < mx a0 b0 := Decidable.byContradiction (fun h3 => h ⟨h1, h2, h3⟩)
      rw [if_pos h1, if_pos h2, decide_eq_true h3, impl_Agree.j0, if_pos rfl]
    · rw [if_pos h1, if_neg h2, impl_Agree.j0, if_pos rfl]
  · rw [if_neg h1, impl_Agree.j0, if_pos rfl]

theorem implAgree_good (a0 a1 a2 : Int) (al : List Int) (b0 b1 b2 : Int) (bl : List Int) (h : okO a0 a1 a2 al = true ∧ okO b0 b1 b2 bl = true ∧ ¬ mn a1 b1 < mx a0 b0) (k : Nat) (hk : 1000 ≤ k) :
    ∃ r, impl_Agree.f k a0 a1 a2 al b0 b1 b2 bl = some (mn a1 b1, r, true) ∧ best (needs al bl) (Go.bits .and .i64 a2 b2) r := by
  obtain ⟨k, rfl⟩ : ∃ m, k = m + 1 := ⟨k - 1, by omega⟩
  obtain ⟨h1, h2, h3⟩ := h
  have g1 := (okO_iff _ _ _ _).1 h1
  have g2 := (okO_iff _ _ _ _).1 h2
  unfold impl_Agree.f
  rw [implValid_val, implValid_val, Option.bind_some, Option.bind_some, if_pos h1, if_pos h2, decide_eq_false h3, impl_Agree.j0, if_neg Bool.false_ne_true]
  exact implAgree_l0 a0 a1 a2 al b0 b1 b2 bl g1.2.2.2.1 g2.2.2.2.1 (needs_M al bl g1.2.2.2.1 g2.2.2.2.1 g1.2.2.2.2 g2.2.2.2.2) _ (and_M _ _ g1.2.2.1 g2.2.2.1) k (by omega)

theorem inRange_val (x a b : Int) : spec_inRange.f x a b = some (decide (a ≤ x ∧ x ≤ b)) := by
  unfold spec_inRange.f
  by_cases h : a ≤ x
  · rw [if_pos h]; simp [h]
  · rw [if_neg h]; simp [h]

theorem specPower_l0 : ∀ (i k a : Nat), i < k → i ≤ 5 → a * 2 ^ i ≤ 1000000 → spec_power.l0 k (i : Int) (a : Int) = some ((a * 2 ^ i : Nat) : Int) := by
  intro i
  induction i with
  | zero =>
    intro k a hk _ _
    obtain ⟨k, rfl⟩ : ∃ m, k = m + 1 := ⟨k - 1, by omega⟩
    rw [spec_power.l0, if_neg (by omega), Nat.pow_zero, Nat.mul_one]
  | succ i ih =>
    intro k a hk h5 ha
    obtain ⟨k, rfl⟩ : ∃ m, k = m + 1 := ⟨k - 1, by omega⟩
    have e : a * 2 ^ (i + 1) = 2 * a * 2 ^ i := by rw [Nat.pow_succ, Nat.mul_comm (2 ^ i) 2, ← Nat.mul_assoc, Nat.mul_comm a 2]
    rw [e] at ha
    have hp : 1 ≤ 2 ^ i := Nat.one_le_two_pow
    have h2 : 2 * a * 1 ≤ 2 * a * 2 ^ i := Nat.mul_le_mul_left _ hp
    rw [spec_power.l0, if_pos (by omega), (IntWalk.wrap64_in (((i + 1 : Nat) : Int) - 1) (by omega)).trans (show ((i + 1 : Nat) : Int) - 1 = (i : Int) by omega), (IntWalk.wrap64_in (2 * (a : Int)) (by omega)).trans (show 2 * (a : Int) = ((2 * a : Nat) : Int) by omega), ih k (2 * a) (by omega) (by omega) ha, e]

theorem specPower_ok (i : Nat) (hi : i ≤ 5) (k : Nat) (hk : 6 ≤ k) : spec_power.f k (i : Int) = some ((2 ^ i : Nat) : Int) := by
  have h2 : 2 ^ i ≤ 2 ^ 5 := Nat.pow_le_pow_right (by omega) hi
  have h := specPower_l0 i k 1 (by omega) hi (by omega)
  rw [Nat.one_mul] at h
  exact h

theorem specPower5 (k : Nat) (hk : 6 ≤ k) : spec_power.f k 5 = some 32 := specPower_ok 5 (by omega) k hk

theorem specValid_l0 (a b c : Int) (l : List Int) (hl : l.length ≤ 2000000) : ∀ (d k i : Nat), i + d = l.length → d + 7 < k → spec_validOffer.l0 k (i : Int) a b c l = some (decide (0 ≤ a ∧ a ≤ 20) && decide (a ≤ b ∧ b ≤ 20) && decide (0 ≤ c ∧ c ≤ 31) && decide (l.length = 5) && !((l.drop i).any fun n => !decide (0 ≤ n ∧ n ≤ 31))) := by
  intro d
  induction d with
  | zero =>
    intro k i hi hk
    obtain ⟨k, rfl⟩ : ∃ m, k = m + 1 := ⟨k - 1, by omega⟩
    rw [spec_validOffer.l0, if_neg (by omega), List.drop_eq_nil_of_le (by omega), inRange_val, inRange_val, specPower5 k (by omega)]
    simp only [Option.bind_some, inRange_val, show wrap64 (32 - 1) = 31 from IntWalk.wrap64_in (32 - 1) (by omega), List.any_nil, Bool.not_false, Bool.and_true]
    by_cases h1 : l.length = 5
    · rw [if_pos (by omega), decide_eq_true h1, Bool.and_true]
      by_cases h2 : 0 ≤ a ∧ a ≤ 20
      · rw [decide_eq_true h2, if_pos rfl, Bool.true_and]
        by_cases h3 : a ≤ b ∧ b ≤ 20
        · rw [decide_eq_true h3, if_pos rfl, Bool.true_and]
        · rw [decide_eq_false h3, if_neg Bool.false_ne_true, Bool.false_and]
      · rw [decide_eq_false h2, if_neg Bool.false_ne_true, Bool.false_and, Bool.false_and]
    · rw [if_neg (by omega), decide_eq_false h1, Bool.and_false]
  | succ d ih =>
    intro k i hi hk
    obtain ⟨k, rfl⟩ : ∃ m, k = m + 1 := ⟨k - 1, by omega⟩
    rw [spec_validOffer.l0, if_pos (by omega), if_pos (by omega), specPower5 k (by omega), Option.bind_some, inRange_val, Option.bind_some, step_nat i (by omega), rd_nat l i (by omega), List.drop_eq_getElem_cons (by omega : i < l.length), List.any_cons, show wrap64 (32 - 1) = 31 from IntWalk.wrap64_in (32 - 1) (by omega)]
    by_cases h : 0 ≤ l[i]'(by omega) ∧ l[i]'(by omega) ≤ 31
    · rw [decide_eq_true h, if_pos rfl, ih k (i + 1) (by omega) (by omega), Bool.not_true, Bool.false_or]
    · rw [decide_eq_false h, if_neg Bool.false_ne_true, Bool.not_false, Bool.true_or, Bool.not_true, Bool.and_false]

theorem specvalid_ok (a b c : Int) (l : List Int) (hl : l.length ≤ 2000000) (k : Nat) (hk : l.length + 7 < k) : spec_validOffer.f k a b c l = some (okO a b c l) := by
  unfold spec_validOffer.f
  have h := specValid_l0 a b c l hl l.length k 0 (by omega) hk
  rw [List.drop_zero] at h
  exact h

theorem xor64_range (a b : Int) (ha : 0 ≤ a) (ha' : a < 1073741824) (hb : 0 ≤ b) (hb' : b < 1073741824) :
    0 ≤ Go.bits .xor .i64 a b ∧ Go.bits .xor .i64 a b < 1073741824 := by
  obtain ⟨m, rfl⟩ := Int.eq_ofNat_of_zero_le ha
  obtain ⟨n, rfl⟩ := Int.eq_ofNat_of_zero_le hb
  have hm : m < 2 ^ 30 := by omega
  have hn : n < 2 ^ 30 := by omega
  have hx : m ^^^ n < 2 ^ 30 := Nat.xor_lt_two_pow hm hn
  have hm' : m % 2 ^ IntKind.i64.bits = m := Nat.mod_eq_of_lt (Nat.lt_of_lt_of_le hm (by decide))
  have hn' : n % 2 ^ IntKind.i64.bits = n := Nat.mod_eq_of_lt (Nat.lt_of_lt_of_le hn (by decide))
  simp only [Go.bits, BitVec.ofInt_natCast, BitVec.toNat_xor, BitVec.toNat_ofNat, hm', hn']
  rw [IntWalk.i64_in ((m ^^^ n : Nat) : Int) (by omega)]
  omega

theorem rd_range (l : List Int) (hl : ∀ x ∈ l, 0 ≤ x ∧ x ≤ 255) (i : Int) : 0 ≤ rd l i ∧ rd l i ≤ 255 := by
  unfold rd
  rw [List.getD_eq_getElem?_getD]
  cases h : l[i.toNat]? with
  | none => simp
  | some v => exact hl v (List.mem_of_getElem? h)

theorem tmod_range (a n : Int) (ha : 0 ≤ a) (hn : 1 ≤ n) : 0 ≤ Int.tmod a n ∧ Int.tmod a n < n :=
  ⟨Int.tmod_nonneg n ha, Int.tmod_lt_of_pos a (by omega)⟩

theorem pick_ok (l : List Int) (hl : ∀ x ∈ l, 0 ≤ x ∧ x ≤ 255) (hn : l.length ≤ 2000) (k : Nat) (p n : Int) (hp : 0 ≤ p) (hp' : p ≤ 1000000) :
    ∃ v, spec_reader_pick.f (k + 1) l p n = some (v, p + 1) ∧ 0 ≤ v ∧ (1 ≤ n → v < n) := by
  have hw : wrap64 (p + 1) = p + 1 := IntWalk.wrap64_in _ (by omega)
  unfold spec_reader_pick.f
  rw [hw]
  by_cases h1 : n < 1
  · rw [if_pos h1]
    exact ⟨0, by simp [spec_reader_pick.j0], by omega, fun h => by omega⟩
  · rw [if_neg h1]
    by_cases h2 : l.length = 0
    · exact ⟨0, by simp [spec_reader_pick.j0, h2], by omega, fun h => by omega⟩
    · have hb : ((l.length : Int) == 0) = false := beq_eq_false_iff_ne.mpr (by omega)
      have hw1 : wrap64 (p + 1 - 1) = p := (IntWalk.wrap64_in (p + 1 - 1) (by omega)).trans (by omega)
      have hn0 : n ≠ 0 := by omega
      have hl0 : (l.length : Int) ≠ 0 := by omega
      simp only [spec_reader_pick.j0, hb, hw1, Bool.false_eq_true, if_false, hn0, hl0]
      by_cases h3 : p < (l.length : Int)
      · rw [if_pos h3, if_pos hp]
        have hr := rd_range l hl p
        rw [IntWalk.wrap64_in (rd l p) (by omega)]
        have ht := tmod_range (rd l p) n hr.1 (by omega)
        exact ⟨_, rfl, ht.1, fun _ => ht.2⟩
      · rw [if_neg h3]
        have hm1 := tmod_range p (l.length : Int) hp (by omega)
        rw [if_pos hm1.1, if_pos hm1.2]
        have hw7 : wrap64 (p * 7) = p * 7 := IntWalk.wrap64_in _ (by omega)
        have hw73 : wrap64 (p * 7 + 3) = p * 7 + 3 := IntWalk.wrap64_in _ (by omega)
        rw [hw7, hw73]
        have hm2 := tmod_range (p * 7 + 3) (l.length : Int) (by omega) (by omega)
        rw [if_pos hm2.1, if_pos hm2.2]
        have hr1 := rd_range l hl (Int.tmod p (l.length : Int))
        have hr2 := rd_range l hl (Int.tmod (p * 7 + 3) (l.length : Int))
        generalize rd l (Int.tmod p (l.length : Int)) = r1 at hr1 ⊢
        generalize rd l (Int.tmod (p * 7 + 3) (l.length : Int)) = r2 at hr2 ⊢
        have hq : 0 ≤ Int.tdiv p (l.length : Int) ∧ Int.tdiv p (l.length : Int) ≤ p := by
          rw [Int.tdiv_eq_ediv_of_nonneg hp]
          exact ⟨Int.ediv_nonneg hp (by omega), Int.ediv_le_self _ hp⟩
        generalize Int.tdiv p (l.length : Int) = q at hq ⊢
        simp (disch := omega) only [IntWalk.wrap64_in]
        have hX : 0 ≤ r1 * 131 + r2 * 1117 + p * 29 + q * 53 ∧ r1 * 131 + r2 * 1117 + p * 29 + q * 53 < 1073741824 := by omega
        generalize r1 * 131 + r2 * 1117 + p * 29 + q * 53 = X at hX ⊢
        have hd : 0 ≤ Int.tdiv X 64 ∧ Int.tdiv X 64 < 1073741824 := by
          rw [Int.tdiv_eq_ediv_of_nonneg hX.1]; omega
        rw [IntWalk.wrap64_in (Int.tdiv X 64) (by omega)]
        have hx := xor64_range X (Int.tdiv X 64) hX.1 hX.2 hd.1 hd.2
        have ht := tmod_range (Go.bits .xor .i64 X (Int.tdiv X 64)) n hx.1 (by omega)
        exact ⟨_, rfl, ht.1, fun _ => ht.2⟩

theorem reader_ok (l0 : List Int) (hw : ∀ x ∈ l0, (Lit.int .u8 x).wf = true) :
    ∃ l, spec_newReader.f l0 = some (l, 0) ∧ (∀ x ∈ l, 0 ≤ x ∧ x ≤ 255) ∧ l.length ≤ 2000 := by
  have hb : ∀ x ∈ l0, 0 ≤ x ∧ x ≤ 255 := by
    intro x hx
    have h := hw x hx
    simp [Lit.wf, IntKind.min, IntKind.max, IntKind.signed, IntKind.bits] at h
    omega
  unfold spec_newReader.f
  by_cases h : (l0.length : Int) > 2000
  · rw [if_pos h, if_pos (by omega)]
    exact ⟨_, rfl, fun x hx => hb x (List.mem_of_mem_take hx), by rw [List.length_take]; omega⟩
  · rw [if_neg h]
    exact ⟨_, rfl, hb, by omega⟩

theorem one_ok (l : List Int) (hl : ∀ x ∈ l, 0 ≤ x ∧ x ≤ 255) (hn : l.length ≤ 2000) (k : Nat) (p : Int) (xs : List Int) (hp : 0 ≤ p) (hp' : p ≤ 1000000) (hx : 1 ≤ xs.length) :
    ∃ v, spec_reader_one.f (k + 1) l p xs = some (v, p + 1) ∧ v ∈ xs := by
  obtain ⟨v, hv, h0, h1⟩ := pick_ok l hl hn k p (xs.length : Int) hp hp'
  have h2 := h1 (by omega)
  unfold spec_reader_one.f
  rw [hv]
  simp only [Option.bind_some]
  rw [if_pos h0, if_pos h2]
  refine ⟨_, rfl, ?_⟩
  unfold rd
  have h3 : v.toNat < xs.length := by omega
  rw [List.getD_eq_getElem?_getD, List.getElem?_eq_getElem h3]
  exact List.getElem_mem h3

theorem anOffer_l0 (l : List Int) (hl : ∀ x ∈ l, 0 ≤ x ∧ x ≤ 255) (hn : l.length ≤ 2000) (a b c : Int) : ∀ (d k : Nat) (p : Int) (o : List Int), o.length + d = 5 → 0 ≤ p → p + 4 * d + 2 ≤ 900000 → d + 8 < k →
    ∃ b' c' o' p', spec_anOffer.l0 k l p a b c o = some (a, b', c', o', p') ∧ o'.length ≤ 5 ∧ p ≤ p' ∧ p' ≤ p + 4 * d + 2 := by
  intro d
  induction d with
  | zero =>
    intro k p o ho hp hp' hk
    obtain ⟨k, rfl⟩ : ∃ m, k = m + 2 := ⟨k - 2, by omega⟩
    obtain ⟨v, hv, _, _⟩ := pick_ok l hl hn k p 30 hp (by omega)
    obtain ⟨v2, hv2, _⟩ := one_ok l hl hn k (p + 1) [wrap64 (a - 1), 21] (by omega) (by omega) (by simp)
    rw [spec_anOffer.l0, if_neg (by omega), hv, Option.bind_some]
    by_cases h0 : v = 0
    · rw [if_pos h0, hv2, Option.bind_some]
      exact ⟨_, _, _, _, rfl, by omega, by omega, by omega⟩
    · rw [if_neg h0]
      by_cases h1 : v = 1
      · rw [if_pos h1, if_pos (by omega)]
        exact ⟨_, _, _, _, rfl, by rw [List.length_drop]; omega, by omega, by omega⟩
      · rw [if_neg h1]
        by_cases h2 : v = 2
        · rw [if_pos h2]
          exact ⟨_, _, _, _, rfl, by omega, by omega, by omega⟩
        · rw [if_neg h2]
          exact ⟨_, _, _, _, rfl, by omega, by omega, by omega⟩
  | succ d ih =>
    intro k p o ho hp hp' hk
    obtain ⟨k, rfl⟩ : ∃ m, k = m + 2 := ⟨k - 2, by omega⟩
    obtain ⟨v1, hv1, q1, r1⟩ := pick_ok l hl hn k p 5 hp (by omega)
    obtain ⟨v2, hv2, q2, r2⟩ := pick_ok l hl hn k (p + 1) 5 (by omega) (by omega)
    obtain ⟨v3, hv3, q3, r3⟩ := pick_ok l hl hn k (p + 1 + 1) 5 (by omega) (by omega)
    have pw : ∀ v : Int, 0 ≤ v → v < 5 → spec_power.f (k + 1) v = some ((2 ^ v.toNat : Nat) : Int) := by
      intro v h0 h5
      have h := specPower_ok v.toNat (by omega) (k + 1) (by omega)
      rw [Int.toNat_of_nonneg h0] at h
      exact h
    rw [spec_anOffer.l0, if_pos (by omega), hv1, Option.bind_some, pw v1 q1 (r1 (by omega)), Option.bind_some, hv2, Option.bind_some, pw v2 q2 (r2 (by omega)), Option.bind_some, hv3, Option.bind_some, pw v3 q3 (r3 (by omega)), Option.bind_some]
    obtain ⟨v4, hv4, _⟩ := one_ok l hl hn k (p + 1 + 1 + 1) [0, 0, ((2 ^ v1.toNat : Nat) : Int), Go.bits .or .i64 ((2 ^ v2.toNat : Nat) : Int) ((2 ^ v3.toNat : Nat) : Int)] (by omega) (by omega) (by simp)
    rw [hv4, Option.bind_some, if_pos (by omega)]
    obtain ⟨b', c', o', p', e, h1, h2, h3⟩ := ih (k + 1) (p + 1 + 1 + 1 + 1) (o ++ [v4]) (by rw [List.length_append, List.length_singleton]; omega) (by omega) (by omega) (by omega)
    exact ⟨b', c', o', p', e, h1, by omega, by omega⟩

theorem anOffer_ok (l : List Int) (hl : ∀ x ∈ l, 0 ≤ x ∧ x ≤ 255) (hn : l.length ≤ 2000) (k : Nat) (hk : 20 ≤ k) (p : Int) (hp : 0 ≤ p) (hp' : p ≤ 1000) :
    ∃ a b c o p', spec_anOffer.f k l p = some (a, b, c, o, p') ∧ o.length ≤ 5 ∧ 0 ≤ p' ∧ p' ≤ p + 40 := by
  obtain ⟨k, rfl⟩ : ∃ m, k = m + 1 := ⟨k - 1, by omega⟩
  obtain ⟨v1, hv1, _, _⟩ := pick_ok l hl hn k p 6 hp (by omega)
  obtain ⟨v2, hv2, _, _⟩ := pick_ok l hl hn k (p + 1) 32 (by omega) (by omega)
  obtain ⟨v3, hv3, _, _⟩ := pick_ok l hl hn k (p + 1 + 1) 32 (by omega) (by omega)
  obtain ⟨v4, hv4, _, _⟩ := pick_ok l hl hn k (p + 1 + 1 + 1) 8 (by omega) (by omega)
  unfold spec_anOffer.f
  rw [hv1, Option.bind_some, hv2, Option.bind_some, hv3, Option.bind_some, hv4, Option.bind_some]
  obtain ⟨b', c', o', p', e, h1, h2, h3⟩ := anOffer_l0 l hl hn v1 (wrap64 (v1 + v4)) (Go.bits .or .i64 v2 v3) 5 (k + 1) (p + 1 + 1 + 1 + 1) [] rfl (by omega) (by omega) (by omega)
  exact ⟨_, _, _, _, _, e, h1, by omega, by omega⟩

theorem specBit_ok (x : Int) (hx : M5 x) (i : Nat) (hi : i < 5) (k : Nat) (hk : 6 ≤ k) : spec_bit.f k x (i : Int) = some (if mem x i = true then 1 else 0) := by
  unfold spec_bit.f
  have hp : 1 ≤ 2 ^ i := Nat.one_le_two_pow
  rw [specPower_ok i (by omega) k hk, Option.bind_some, if_neg (show ¬ ((2 ^ i : Nat) : Int) = 0 by omega), pow_mem x hx i hi]

/-- The needs of the two offers, the first i of them. -/
def pre (al bl : List Int) (i : Nat) : List Int := (List.range i).map fun j => needs al bl j
theorem pre_length (al bl : List Int) (i : Nat) : (pre al bl i).length = i := by simp [pre]
theorem pre_rd (al bl : List Int) (n i : Nat) (h : i < n) : rd (pre al bl n) (i : Int) = needs al bl i := by
  rw [rd_nat _ i (by rw [pre_length]; exact h)]; simp [pre]
theorem pre_succ (al bl : List Int) (i : Nat) : pre al bl i ++ [Go.bits .or .i64 (rd al (i : Int)) (rd bl (i : Int))] = pre al bl (i + 1) := by
  unfold pre; rw [List.range_succ, List.map_append]; rfl

theorem specClosed_l1 (al bl : List Int) (hn : ∀ i, i < 5 → M5 (needs al bl i)) (X : Int) :
    ∀ (n : Nat) (x acc : Int) (i k : Nat), 10 * x.toNat + (5 - i) ≤ n → 2 * n + 10 < k → M5 x → top (needs al bl) X x → sub5 x X → i ≤ 5 → 0 ≤ acc → acc < ((2 ^ i : Nat) : Int) →
    (∀ j, j < 5 → (mem acc j = true ↔ j < i ∧ mem x j = true ∧ sub5 (needs al bl j) x)) →
    ∃ r, spec_closed.l1 k (pre al bl 5) x acc (i : Int) = some r ∧ best (needs al bl) X r := by
  intro n
  induction n with
  | zero =>
    intro x acc i k h1 hk hM hT hS hi h0 ha hA
    have hi5 : i = 5 := by omega
    subst hi5
    obtain ⟨k, rfl⟩ : ∃ m, k = m + 2 := ⟨k - 2, by omega⟩
    have hMa : M5 acc := ⟨h0, lt5 acc 5 ha (by omega)⟩
    have hle := le5 acc x hMa hM (fun j hj h => ((hA j hj).1 h).2.1)
    have e : acc = x := by unfold M5 at hM; omega
    subst e
    rw [spec_closed.l1, if_neg (by omega), if_pos rfl]
    exact ⟨acc, rfl, hM, fun j hj h => ((hA j hj).1 h).2.2, hT, hS⟩
  | succ n ih =>
    intro x acc i k h1 hk hM hT hS hi h0 ha hA
    have hMa : M5 acc := ⟨h0, lt5 acc i ha hi⟩
    by_cases hi5 : i = 5
    · subst hi5
      obtain ⟨k, rfl⟩ : ∃ m, k = m + 2 := ⟨k - 2, by omega⟩
      rw [spec_closed.l1, if_neg (by omega)]
      by_cases e : acc = x
      · subst e
        rw [if_pos rfl]
        exact ⟨acc, rfl, hM, fun j hj h => ((hA j hj).1 h).2.2, hT, hS⟩
      · rw [if_neg e, spec_closed.l0]
        have hle := le5 acc x hMa hM (fun j hj h => ((hA j hj).1 h).2.1)
        have hM' := hM
        unfold M5 at hM'
        refine ih acc 0 0 k (by omega) (by omega) hMa ?_ ?_ (by omega) (by omega) (by decide) ?_
        · intro z hz hc hzX j hj hzj
          have hzx := hT z hz hc hzX
          exact (hA j hj).2 ⟨hj, hzx j hj hzj, fun l hl hnl => hzx l hl (hc j hj hzj l hl hnl)⟩
        · intro j hj h
          exact hS j hj ((hA j hj).1 h).2.1
        · intro j hj
          exact ⟨fun h => absurd h (by show ¬ (0 : Nat).testBit j = true; rw [Nat.zero_testBit]; exact Bool.false_ne_true), fun h => absurd h.1 (Nat.not_lt_zero _)⟩
    · obtain ⟨k, rfl⟩ : ∃ m, k = m + 1 := ⟨k - 1, by omega⟩
      have step : ∀ acc', acc' = acc → (¬ (mem x i = true ∧ sub5 (needs al bl i) x)) → ∃ r, spec_closed.l1 k (pre al bl 5) x acc' ((i + 1 : Nat) : Int) = some r ∧ best (needs al bl) X r := by
        intro acc' e hno
        subst e
        refine ih x acc' (i + 1) k (by omega) (by omega) hM hT hS (by omega) h0 ?_ ?_
        · have : (2 : Nat) ^ (i + 1) = 2 * 2 ^ i := by rw [Nat.pow_succ, Nat.mul_comm]
          omega
        · intro j hj
          rw [hA j hj]
          constructor
          · exact fun h => ⟨by omega, h.2⟩
          · intro h
            refine ⟨?_, h.2⟩
            by_cases e : j = i
            · subst e; exact absurd h.2 hno
            · omega
      rw [spec_closed.l1, if_pos (by omega), specBit_ok x hM i (by omega) k (by omega), Option.bind_some, step_nat i (by omega)]
      by_cases hm : mem x i = true
      · rw [if_pos hm, if_pos rfl, if_pos (by omega), if_pos (by rw [pre_length]; omega), pre_rd al bl 5 i (by omega)]
        by_cases hs : sub5 (needs al bl i) x
        · rw [if_pos ((and_sub _ x (hn i (by omega)) hM).2 hs), specPower_ok i (by omega) k (by omega), Option.bind_some]
          have hadd := add_ok acc hMa i (by omega) ha
          generalize wrap64 (acc + ((2 ^ i : Nat) : Int)) = acc' at hadd ⊢
          refine ih x acc' (i + 1) k (by omega) (by omega) hM hT hS (by omega) hadd.1.1 hadd.1.2 ?_
          intro j hj
          rw [hadd.2 j hj, Bool.or_eq_true, hA j hj, decide_eq_true_eq]
          constructor
          · rintro (h | h)
            · exact ⟨by omega, h.2⟩
            · subst h; exact ⟨by omega, hm, hs⟩
          · intro h
            by_cases e : j = i
            · exact Or.inr e
            · exact Or.inl ⟨by omega, h.2⟩
        · rw [if_neg (fun h => hs ((and_sub _ x (hn i (by omega)) hM).1 h))]
          exact step acc rfl (fun h => hs h.2)
      · rw [if_neg hm, if_neg (show ¬ (0 : Int) = 1 by omega)]
        exact step acc rfl (fun h => hm h.1)

theorem specClosed_ok (al bl : List Int) (hn : ∀ i, i < 5 → M5 (needs al bl i)) (X : Int) (hX : M5 X) (k : Nat) (hk : 900 ≤ k) :
    ∃ r, spec_closed.f k (pre al bl 5) X = some r ∧ best (needs al bl) X r := by
  obtain ⟨k, rfl⟩ : ∃ m, k = m + 1 := ⟨k - 1, by omega⟩
  unfold spec_closed.f
  rw [spec_closed.l0]
  have h : X.toNat ≤ 31 := by unfold M5 at hX; omega
  refine specClosed_l1 al bl hn X 320 X 0 0 k (by omega) (by omega) hX (fun z _ _ h => h) (fun i _ h => h) (by omega) (by omega) (by decide) ?_
  intro j hj
  exact ⟨fun h => absurd h (by show ¬ (0 : Nat).testBit j = true; rw [Nat.zero_testBit]; exact Bool.false_ne_true), fun h => absurd h.1 (Nat.not_lt_zero _)⟩

theorem specAgree_l0 (a0 a1 a2 : Int) (al : List Int) (b0 b1 b2 : Int) (bl : List Int) (ha : al.length = 5) (hb : bl.length = 5) (hn : ∀ i, i < 5 → M5 (needs al bl i)) (hX : M5 (Go.bits .and .i64 a2 b2)) :
    ∀ (d k i : Nat), i + d = 5 → 910 + d ≤ k → ∃ r, spec_Agree.l0 k (pre al bl i) (i : Int) a0 a1 a2 al b0 b1 b2 bl = some (mn a1 b1, r, true) ∧ best (needs al bl) (Go.bits .and .i64 a2 b2) r := by
  intro d
  induction d with
  | zero =>
    intro k i hi hk
    have hi5 : i = 5 := by omega
    subst hi5
    obtain ⟨k, rfl⟩ : ∃ m, k = m + 1 := ⟨k - 1, by omega⟩
    obtain ⟨r, hr, hbest⟩ := specClosed_ok al bl hn _ hX k (by omega)
    rw [spec_Agree.l0, if_neg (by omega), hr, Option.bind_some]
    exact ⟨r, rfl, hbest⟩
  | succ d ih =>
    intro k i hi hk
    obtain ⟨k, rfl⟩ : ∃ m, k = m + 1 := ⟨k - 1, by omega⟩
    rw [spec_Agree.l0, if_pos (by omega), if_pos (by omega), if_pos (show (i : Int) < (al.length : Int) by omega), if_pos (show (i : Int) < (bl.length : Int) by omega), if_pos (show (pre al bl i).length < 17592186044416 by rw [pre_length]; omega), pre_succ, step_nat i (by omega)]
    exact ih k (i + 1) (by omega) (by omega)

theorem specAgree_bad (a0 a1 a2 : Int) (al : List Int) (b0 b1 b2 : Int) (bl : List Int) (hl1 : al.length ≤ 2000000) (hl2 : bl.length ≤ 2000000) (h : ¬ (okO a0 a1 a2 al = true ∧ okO b0 b1 b2 bl = true ∧ ¬ mn a1 b1 < mx a0 b0)) (k : Nat) (hk : al.length + bl.length + 10 < k) : spec_Agree.f k a0 a1 a2 al b0 b1 b2 bl = some (-1, 0, false) := by
  obtain ⟨k, rfl⟩ : ∃ m, k = m + 1 := ⟨k - 1, by omega⟩
  unfold spec_Agree.f
  rw [specvalid_ok a0 a1 a2 al hl1 _ (by omega), specvalid_ok b0 b1 b2 bl hl2 _ (by omega), Option.bind_some, Option.bind_some]
  by_cases h1 : okO a0 a1 a2 al = true
  · by_cases h2 : okO b0 b1 b2 bl = true
    · have h3 : mn a1 b1 < mx a0 b0 := Decidable.byContradiction (fun h3 => h ⟨h1, h2, h3⟩)
      rw [if_pos h1, if_pos h2, decide_eq_true h3, spec_Agree.j0, if_pos rfl]
    · rw [if_pos h1, if_neg h2, spec_Agree.j0, if_pos rfl]
  · rw [if_neg h1, spec_Agree.j0, if_pos rfl]

theorem specAgree_good (a0 a1 a2 : Int) (al : List Int) (b0 b1 b2 : Int) (bl : List Int) (h : okO a0 a1 a2 al = true ∧ okO b0 b1 b2 bl = true ∧ ¬ mn a1 b1 < mx a0 b0) (k : Nat) (hk : 1000 ≤ k) :
    ∃ r, spec_Agree.f k a0 a1 a2 al b0 b1 b2 bl = some (mn a1 b1, r, true) ∧ best (needs al bl) (Go.bits .and .i64 a2 b2) r := by
  obtain ⟨k, rfl⟩ : ∃ m, k = m + 1 := ⟨k - 1, by omega⟩
  obtain ⟨h1, h2, h3⟩ := h
  have g1 := (okO_iff _ _ _ _).1 h1
  have g2 := (okO_iff _ _ _ _).1 h2
  unfold spec_Agree.f
  rw [specvalid_ok a0 a1 a2 al (by omega) _ (by omega), specvalid_ok b0 b1 b2 bl (by omega) _ (by omega), Option.bind_some, Option.bind_some, if_pos h1, if_pos h2, decide_eq_false h3, spec_Agree.j0, if_neg Bool.false_ne_true]
  exact specAgree_l0 a0 a1 a2 al b0 b1 b2 bl g1.2.2.2.1 g2.2.2.2.1 (needs_M al bl g1.2.2.2.1 g2.2.2.2.1 g1.2.2.2.2 g2.2.2.2.2) (and_M _ _ g1.2.2.1 g2.2.2.1) 5 k 0 (by omega) (by omega)

/-- What both tell of two offers. -/
theorem agree_ok (a0 a1 a2 : Int) (al : List Int) (b0 b1 b2 : Int) (bl : List Int) (hl1 : al.length ≤ 2000000) (hl2 : bl.length ≤ 2000000) :
    ∃ r : Int × Int × Bool, (∀ k, al.length + bl.length + 1010 ≤ k → impl_Agree.f k a0 a1 a2 al b0 b1 b2 bl = some r) ∧ (∀ k, al.length + bl.length + 1010 ≤ k → spec_Agree.f k a0 a1 a2 al b0 b1 b2 bl = some r) ∧
      ((r = (-1, 0, false) ∧ ¬ (okO a0 a1 a2 al = true ∧ okO b0 b1 b2 bl = true ∧ ¬ mn a1 b1 < mx a0 b0)) ∨ (∃ s, r = (mn a1 b1, s, true) ∧ best (needs al bl) (Go.bits .and .i64 a2 b2) s ∧ (okO a0 a1 a2 al = true ∧ okO b0 b1 b2 bl = true ∧ ¬ mn a1 b1 < mx a0 b0))) := by
  by_cases h : okO a0 a1 a2 al = true ∧ okO b0 b1 b2 bl = true ∧ ¬ mn a1 b1 < mx a0 b0
  · obtain ⟨s, _, hs⟩ := implAgree_good a0 a1 a2 al b0 b1 b2 bl h 1000 (by omega)
    refine ⟨(mn a1 b1, s, true), ?_, ?_, Or.inr ⟨s, rfl, hs, h⟩⟩
    · intro k hk
      obtain ⟨r, h1, h2⟩ := implAgree_good a0 a1 a2 al b0 b1 b2 bl h k (by omega)
      rw [h1, best_unique _ _ _ _ h2 hs]
    · intro k hk
      obtain ⟨r, h1, h2⟩ := specAgree_good a0 a1 a2 al b0 b1 b2 bl h k (by omega)
      rw [h1, best_unique _ _ _ _ h2 hs]
  · exact ⟨(-1, 0, false), fun k hk => implAgree_bad a0 a1 a2 al b0 b1 b2 bl h k (by omega), fun k hk => specAgree_bad a0 a1 a2 al b0 b1 b2 bl hl1 hl2 h k (by omega), Or.inl ⟨rfl, h⟩⟩

theorem bits_or_comm (x y : Int) : Go.bits .or .i64 x y = Go.bits .or .i64 y x := by
  simp only [Go.bits, BitVec.or_comm]
theorem bits_and_comm (x y : Int) : Go.bits .and .i64 x y = Go.bits .and .i64 y x := by
  simp only [Go.bits, BitVec.and_comm]
theorem mn_comm (a b : Int) : mn a b = mn b a := by unfold mn; split <;> split <;> omega
theorem mx_comm (a b : Int) : mx a b = mx b a := by unfold mx; split <;> split <;> omega
theorem needs_comm (al bl : List Int) : needs al bl = needs bl al := by
  funext i; exact bits_or_comm _ _

theorem agree_swap (a0 a1 a2 : Int) (al : List Int) (b0 b1 b2 : Int) (bl : List Int) (s : Int) (h : okO a0 a1 a2 al = true ∧ okO b0 b1 b2 bl = true ∧ ¬ mn a1 b1 < mx a0 b0) (hs : best (needs al bl) (Go.bits .and .i64 a2 b2) s) (k : Nat) (hk : 1000 ≤ k) :
    impl_Agree.f k b0 b1 b2 bl a0 a1 a2 al = some (mn a1 b1, s, true) := by
  obtain ⟨r, h1, h2⟩ := implAgree_good b0 b1 b2 bl a0 a1 a2 al ⟨h.2.1, h.1, by rw [mn_comm, mx_comm]; exact h.2.2⟩ k hk
  rw [needs_comm, bits_and_comm] at h2
  rw [h1, mn_comm, best_unique _ _ _ _ h2 hs]

theorem lawPower_l0 : ∀ (i k a : Nat), i < k → i ≤ 5 → a * 2 ^ i ≤ 1000000 → laws_power.l0 k (i : Int) (a : Int) = some ((a * 2 ^ i : Nat) : Int) := by
  intro i
  induction i with
  | zero =>
    intro k a hk _ _
    obtain ⟨k, rfl⟩ : ∃ m, k = m + 1 := ⟨k - 1, by omega⟩
    rw [laws_power.l0, if_neg (by omega), Nat.pow_zero, Nat.mul_one]
  | succ i ih =>
    intro k a hk h5 ha
    obtain ⟨k, rfl⟩ : ∃ m, k = m + 1 := ⟨k - 1, by omega⟩
    have e : a * 2 ^ (i + 1) = 2 * a * 2 ^ i := by rw [Nat.pow_succ, Nat.mul_comm (2 ^ i) 2, ← Nat.mul_assoc, Nat.mul_comm a 2]
    rw [e] at ha
    have hp : 1 ≤ 2 ^ i := Nat.one_le_two_pow
    have h2 : 2 * a * 1 ≤ 2 * a * 2 ^ i := Nat.mul_le_mul_left _ hp
    rw [laws_power.l0, if_pos (by omega), (IntWalk.wrap64_in (((i + 1 : Nat) : Int) - 1) (by omega)).trans (show ((i + 1 : Nat) : Int) - 1 = (i : Int) by omega), (IntWalk.wrap64_in (2 * (a : Int)) (by omega)).trans (show 2 * (a : Int) = ((2 * a : Nat) : Int) by omega), ih k (2 * a) (by omega) (by omega) ha, e]

theorem lawPower_ok (i : Nat) (hi : i ≤ 5) (k : Nat) (hk : 6 ≤ k) : laws_power.f k (i : Int) = some ((2 ^ i : Nat) : Int) := by
  have h2 : 2 ^ i ≤ 2 ^ 5 := Nat.pow_le_pow_right (by omega) hi
  have h := lawPower_l0 i k 1 (by omega) hi (by omega)
  rw [Nat.one_mul] at h
  exact h

theorem lawBit_ok (x : Int) (hx : M5 x) (i : Nat) (hi : i < 5) (k : Nat) (hk : 6 ≤ k) : laws_bit.f k x (i : Int) = some (if mem x i = true then 1 else 0) := by
  unfold laws_bit.f
  have hp : 1 ≤ 2 ^ i := Nat.one_le_two_pow
  rw [lawPower_ok i (by omega) k hk, Option.bind_some, if_neg (show ¬ ((2 ^ i : Nat) : Int) = 0 by omega), pow_mem x hx i hi]

theorem drawAgree_ok (l0 : List Int) (hw : ∀ x ∈ l0, (Lit.int .u8 x).wf = true) (k : Nat) (hk : 30 ≤ k) : ∃ a b c o a' b' c' o', spec_DrawAgree.f k l0 = some (a, b, c, o, a', b', c', o') ∧ o.length ≤ 5 ∧ o'.length ≤ 5 := by
  obtain ⟨l, hr, hb, hn⟩ := reader_ok l0 hw
  obtain ⟨a, b, c, o, p, h1, h2, h3, h4⟩ := anOffer_ok l hb hn k (by omega) 0 (by omega) (by omega)
  obtain ⟨a', b', c', o', p', h5, h6, _, _⟩ := anOffer_ok l hb hn k (by omega) p h3 (by omega)
  refine ⟨a, b, c, o, a', b', c', o', ?_, h2, h6⟩
  unfold spec_DrawAgree.f
  rw [hr, Option.bind_some, h1, Option.bind_some]
  show ((spec_anOffer.f k l p).bind _) = _
  rw [h5, Option.bind_some]

theorem or_needs_M (al bl : List Int) (i : Nat) : Go.bits .or .i64 (rd al (i : Int)) (rd bl (i : Int)) = needs al bl i := rfl

theorem law_l0 (a0 a1 a2 : Int) (al : List Int) (b0 b1 b2 : Int) (bl : List Int) (s : Int) (h : okO a0 a1 a2 al = true ∧ okO b0 b1 b2 bl = true ∧ ¬ mn a1 b1 < mx a0 b0) (hs : best (needs al bl) (Go.bits .and .i64 a2 b2) s) :
    ∀ (d k i : Nat), i + d = 5 → 20 + 2 * d ≤ k → laws_FnAgree.l0 k (mn a1 b1) s (mn a1 b1) s true (i : Int) a0 a1 a2 al b0 b1 b2 bl = some true := by
  have g1 := (okO_iff _ _ _ _).1 h.1
  have g2 := (okO_iff _ _ _ _).1 h.2.1
  have hX := and_M _ _ g1.2.2.1 g2.2.2.1
  have hsM := hs.1
  intro d
  induction d with
  | zero =>
    intro k i hi hk
    have hi5 : i = 5 := by omega
    subst hi5
    obtain ⟨k, rfl⟩ : ∃ m, k = m + 1 := ⟨k - 1, by omega⟩
    have hx := h.2.2
    have c1 : mn a1 b1 ≥ a0 ∧ mn a1 b1 ≥ b0 := by
      have q : a0 ≤ mx a0 b0 ∧ b0 ≤ mx a0 b0 := by
        unfold mx
        split <;> exact ⟨by omega, by omega⟩
      exact ⟨by omega, by omega⟩
    have e1 : Go.bits .and .i64 s a2 = s := (and_sub s a2 hsM g1.2.2.1).2 (fun i hi hm => (Bool.and_eq_true_iff.1 ((and_mem _ _ g1.2.2.1 g2.2.2.1 i hi).symm.trans (hs.2.2.2 i hi hm))).1)
    have e2 : Go.bits .and .i64 s b2 = s := (and_sub s b2 hsM g2.2.2.1).2 (fun i hi hm => (Bool.and_eq_true_iff.1 ((and_mem _ _ g1.2.2.1 g2.2.2.1 i hi).symm.trans (hs.2.2.2 i hi hm))).2)
    rw [laws_FnAgree.l0, if_neg (show ¬ ((5 : Nat) : Int) < 5 by omega), if_pos rfl, if_pos rfl, if_pos rfl, if_pos c1.1, if_pos c1.2, e1, e2, beq_self_eq_true]
  | succ d ih =>
    intro k i hi hk
    obtain ⟨k, rfl⟩ : ∃ m, k = m + 2 := ⟨k - 2, by omega⟩
    have hnM := needs_M al bl g1.2.2.2.1 g2.2.2.2.1 g1.2.2.2.2 g2.2.2.2.2 i (by omega)
    have l1 := g1.2.2.2.1
    have l2 := g2.2.2.2.1
    rw [laws_FnAgree.l0, if_pos (by omega), if_pos (by omega), if_pos (show (i : Int) < (al.length : Int) by omega), if_pos (show (i : Int) < (bl.length : Int) by omega), or_needs_M, lawBit_ok s hsM i (by omega) _ (by omega), Option.bind_some]
    have next : laws_FnAgree.j2 (k + 1) (mn a1 b1) s (mn a1 b1) s true (i : Int) (needs al bl i) false a0 a1 a2 al b0 b1 b2 bl = some true := by
      rw [laws_FnAgree.j2, if_neg Bool.false_ne_true, lawBit_ok _ hX i (by omega) k (by omega), Option.bind_some, step_nat i (by omega)]
      by_cases hc : mem (Go.bits .and .i64 a2 b2) i = true
      · rw [if_pos hc, if_pos rfl, lawBit_ok s hsM i (by omega) k (by omega), Option.bind_some]
        by_cases hm : mem s i = true
        · rw [if_pos hm, if_neg (show ¬ (1 : Int) = 0 by omega)]
          exact ih k (i + 1) (by omega) (by omega)
        · rw [if_neg hm, if_pos rfl, lawPower_ok i (by omega) k (by omega), Option.bind_some]
          have hp1 : (2 : Nat) ^ i ≤ 2 ^ 4 := Nat.pow_le_pow_right (by omega) (by omega)
          have hpM : M5 ((2 ^ i : Nat) : Int) := ⟨Int.natCast_nonneg _, Int.le_trans (Int.ofNat_le.2 hp1) (by decide)⟩
          have hoM := or_M s _ hsM hpM
          have hno : ¬ Go.bits .and .i64 (needs al bl i) (Go.bits .or .i64 s ((2 ^ i : Nat) : Int)) = needs al bl i := by
            intro e
            have hsub := (and_sub _ _ hnM hoM).1 e
            have hin := fun j (hj : j < 5) => orp_mem s hsM i (by omega) j hj
            generalize Go.bits .or .i64 s ((2 ^ i : Nat) : Int) = z at hsub hin hoM
            apply hm
            refine hs.2.2.1 z hoM ?_ ?_ i (by omega) (by rw [hin i (by omega)]; simp)
            · intro j hj hzj l hl hnl
              rw [hin j hj, Bool.or_eq_true, decide_eq_true_eq] at hzj
              rcases hzj with q | q
              · rw [hin l hl, hs.2.1 j hj q l hl hnl, Bool.true_or]
              · subst q; exact hsub l hl hnl
            · intro j hj hzj
              rw [hin j hj, Bool.or_eq_true, decide_eq_true_eq] at hzj
              rcases hzj with q | q
              · exact hs.2.2.2 j hj q
              · subst q; exact hc
          rw [if_neg hno]
          exact ih k (i + 1) (by omega) (by omega)
      · rw [if_neg hc, if_neg (show ¬ (0 : Int) = 1 by omega)]
        exact ih k (i + 1) (by omega) (by omega)
    by_cases hm : mem s i = true
    · rw [if_pos hm, if_pos rfl, (and_sub _ s hnM hsM).2 (hs.2.1 i (by omega) hm), bne_self_eq_false]
      exact next
    · rw [if_neg hm, if_neg (show ¬ (0 : Int) = 1 by omega)]
      exact next

theorem FnAgree : laws_FnAgree.Pure := by
  intro l0 _ _ hw
  refine ⟨3000, ?_⟩
  unfold laws_FnAgree.f
  by_cases hc : (l0.length : Int) > 1048576
  · rw [if_pos hc]
  · obtain ⟨a, b, c, o, a', b', c', o', h1, h2, h3⟩ := drawAgree_ok l0 hw 3000 (by omega)
    obtain ⟨r, hi, hs, hr⟩ := agree_ok a b c o a' b' c' o' (by omega) (by omega)
    rw [if_neg hc, h1, Option.bind_some]
    show ((impl_Agree.f 3000 a b c o a' b' c' o').bind _) = _
    rw [hi 3000 (by omega), Option.bind_some]
    show ((spec_Agree.f 3000 a b c o a' b' c' o').bind _) = _
    rw [hs 3000 (by omega), Option.bind_some, if_pos rfl, if_pos rfl, bne_self_eq_false, if_neg Bool.false_ne_true]
    show laws_FnAgree.j0 3000 r.1 r.2.1 r.2.2 r.1 r.2.1 r.2.2 (!r.2.2) a b c o a' b' c' o' = some true
    rw [laws_FnAgree.j0]
    rcases hr with ⟨e, _⟩ | ⟨s, e, hbest, hgood⟩
    · subst e
      rfl
    · subst e
      rw [if_neg (show ¬ (!true) = true from Bool.false_ne_true), agree_swap a b c o a' b' c' o' s hgood hbest 2999 (by omega), Option.bind_some]
      exact law_l0 a b c o a' b' c' o' s hgood hbest 5 2999 0 (by omega) (by omega)

end Go.Proofs.Ytnolmimfpnngjaa.Pure
