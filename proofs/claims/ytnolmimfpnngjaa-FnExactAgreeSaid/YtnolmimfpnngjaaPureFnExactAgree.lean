/- The program's Agree tells what the reference's tells, and leaves its arguments as they were: FnExactAgree returns true for any two offers. Conditions: none. -/
import Derived.Test.YtnolmimfpnngjaaHFnExactAgreex5
namespace Go.Proofs.Ytnolmimfpnngjaa.Pure
open Go.RowKit Go.Proofs.Ytnolmimfpnngjaa.HFnExactAgree Go.Proofs.YtnolmimfpnngjaaW.PrintWords Go.Proofs.YtnolmimfpnngjaaW.PrintLast
open Go
set_option linter.unusedVariables false
set_option linter.unusedSimpArgs false

theorem rd_nat (l : List Int) (i : Nat) (h : i < l.length) : rd l (i : Int) = l[i] := by
  unfold rd
  rw [Int.toNat_natCast, List.getD_eq_getElem?_getD, List.getElem?_eq_getElem h]
  rfl

theorem step_nat (i : Nat) (h : i < 4611686018427387904) : wrap64 ((i : Int) + 1) = ((i + 1 : Nat) : Int) := by
  rw [IntWalk.wrap64_in ((i : Int) + 1) (by omega)]
  rfl

theorem toIntS_l0 (l : List Int) (hl : l.length ≤ 2000000) : ∀ (d k i : Nat) (o : List Int), i + d = l.length → d < k → o.length = l.length → (∀ j, j < i → o[j]? = l[j]?) → laws_toIntS.l0 k l o (i : Int) = some l := by
  intro d
  induction d with
  | zero =>
    intro k i o hi hk ho hj
    obtain ⟨k, rfl⟩ : ∃ m, k = m + 1 := ⟨k - 1, by omega⟩
    simp only [laws_toIntS.l0]
    rw [if_neg (by omega)]
    congr 1
    apply List.ext_getElem?
    intro j
    by_cases h : j < l.length
    · exact hj j (by omega)
    · rw [List.getElem?_eq_none (by omega), List.getElem?_eq_none (by omega)]
  | succ d ih =>
    intro k i o hi hk ho hj
    obtain ⟨k, rfl⟩ : ∃ m, k = m + 1 := ⟨k - 1, by omega⟩
    simp only [laws_toIntS.l0]
    rw [if_pos (by omega), if_pos (by omega), if_pos (by omega), step_nat i (by omega), Int.toNat_natCast, rd_nat l i (by omega)]
    refine ih k (i + 1) _ (by omega) (by omega) (by rw [List.length_set]; exact ho) ?_
    intro j hji
    by_cases e : i = j
    · subst e
      rw [List.getElem?_set_self (by omega), List.getElem?_eq_getElem (by omega)]
    · rw [List.getElem?_set_ne e]
      exact hj j (by omega)

theorem toIntS_ok (l : List Int) (hl : l.length ≤ 2000000) (k : Nat) (hk : l.length < k) : laws_toIntS.f k l = some l := by
  unfold laws_toIntS.f
  rw [if_pos (by omega), if_pos (by rw [Int.toNat_natCast]; omega), Int.toNat_natCast]
  exact toIntS_l0 l hl l.length k 0 _ (by omega) hk (List.length_replicate ..) (fun j hj => absurd hj (Nat.not_lt_zero _))

theorem eqIntS_l0 (a b : List Int) (hab : a.length = b.length) (hl : a.length ≤ 2000000) : ∀ (d k i : Nat), i + d = a.length → d < k → laws_eqIntS.l0 k a b (i : Int) = some (decide (a.drop i = b.drop i)) := by
  intro d
  induction d with
  | zero =>
    intro k i hi hk
    obtain ⟨k, rfl⟩ : ∃ m, k = m + 1 := ⟨k - 1, by omega⟩
    simp only [laws_eqIntS.l0]
    rw [if_neg (by omega), List.drop_eq_nil_of_le (by omega), List.drop_eq_nil_of_le (by omega)]
    rfl
  | succ d ih =>
    intro k i hi hk
    obtain ⟨k, rfl⟩ : ∃ m, k = m + 1 := ⟨k - 1, by omega⟩
    simp only [laws_eqIntS.l0]
    rw [if_pos (by omega), if_pos (by omega), if_pos (by omega), step_nat i (by omega), rd_nat a i (by omega), rd_nat b i (by omega)]
    rw [List.drop_eq_getElem_cons (by omega : i < a.length), List.drop_eq_getElem_cons (by omega : i < b.length)]
    by_cases e : a[i]'(by omega) = b[i]'(by omega)
    · rw [if_pos e, ih k (i + 1) (by omega) (by omega), e]
      exact congrArg some (decide_eq_decide.mpr ⟨fun h => by rw [h], fun h => (List.cons.inj h).2⟩)
    · rw [if_neg e]
      exact congrArg some (decide_eq_false (fun h => e (List.cons.inj h).1)).symm

theorem eqIntS_ok (a b : List Int) (hl : a.length ≤ 2000000) (k : Nat) (hk : a.length < k) : laws_eqIntS.f k a b = some (decide (a = b)) := by
  unfold laws_eqIntS.f
  by_cases h : a.length = b.length
  · rw [if_pos (by omega)]
    exact eqIntS_l0 a b h hl a.length k 0 (by omega) hk
  · rw [if_neg (by omega), decide_eq_false (fun e => h (by rw [e]))]

theorem eqIntS_self (a : List Int) (hl : a.length ≤ 2000000) (k : Nat) (hk : a.length < k) : laws_eqIntS.f k a a = some true := by
  rw [eqIntS_ok a a hl k hk, decide_eq_true rfl]

theorem sz_ok (a b c : Int) (l : List Int) (n : Int) (hl : l.length ≤ maxLen) (h0 : 0 ≤ n) (h1 : n ≤ 1048576) : laws_szOffer.f a b c l n = some (if n - (l.length : Int) < 0 then -1 else n - (l.length : Int)) := by
  have hm : maxLen ≤ 9223372036854775807 := by decide
  unfold laws_szOffer.f laws_szIntS.f
  rw [IntWalk.wrap64_in (n - (l.length : Int)) (by omega)]
  by_cases h : n - (l.length : Int) < 0
  · rw [if_pos h, if_pos h, Option.bind_some, if_pos (show (-1 : Int) < 0 by omega)]
  · rw [if_neg h, if_neg h, Option.bind_some, if_neg h]
theorem toOffer_ok (a b c : Int) (l : List Int) (hl : l.length ≤ 2000000) (k : Nat) (hk : l.length < k) : laws_toOffer.f k a b c l = some (a, b, c, l) := by
  unfold laws_toOffer.f
  rw [toIntS_ok l hl k hk, Option.bind_some]
theorem eqOffer_ok (a b c : Int) (l : List Int) (hl : l.length ≤ 2000000) (k : Nat) (hk : l.length < k) : laws_eqOffer.f k a b c l a b c l = some true := by
  unfold laws_eqOffer.f
  rw [if_pos rfl, if_pos rfl, if_pos rfl, eqIntS_self l hl k hk, Option.bind_some, if_pos rfl]

def mem (x : Int) (i : Nat) : Bool := x.toNat.testBit i
def M5 (x : Int) : Prop := 0 ≤ x ∧ x ≤ 31
def sub5 (a b : Int) : Prop := ∀ i, i < 5 → mem a i = true → mem b i = true

theorem lift5 (x : Int) (h : M5 x) : ∃ a : Fin 32, x = ((a.val : Nat) : Int) := by
  unfold M5 at h
  exact ⟨⟨x.toNat, by omega⟩, by show x = ((x.toNat : Nat) : Int); omega⟩

theorem fand : ∀ a b : Fin 32, (0 ≤ Go.bits .and .i64 (a.val : Int) (b.val : Int) ∧ Go.bits .and .i64 (a.val : Int) (b.val : Int) ≤ 31) ∧ ∀ i : Fin 5, mem (Go.bits .and .i64 (a.val : Int) (b.val : Int)) i.val = (mem (a.val : Int) i.val && mem (b.val : Int) i.val) := by decide +kernel
theorem for5 : ∀ a b : Fin 32, (0 ≤ Go.bits .or .i64 (a.val : Int) (b.val : Int) ∧ Go.bits .or .i64 (a.val : Int) (b.val : Int) ≤ 31) := by decide +kernel
theorem fandNot : ∀ a b : Fin 32, (Go.bits .andNot .i64 (a.val : Int) (b.val : Int) = 0) ↔ (∀ i : Fin 5, mem (a.val : Int) i.val = true → mem (b.val : Int) i.val = true) := by decide +kernel
theorem fandEq : ∀ a b : Fin 32, (Go.bits .and .i64 (a.val : Int) (b.val : Int) = (a.val : Int)) ↔ (∀ i : Fin 5, mem (a.val : Int) i.val = true → mem (b.val : Int) i.val = true) := by decide +kernel
theorem fbit : ∀ (a : Fin 32) (i : Fin 5), (Go.bits .and .i64 (shr .i64 (a.val : Int) (i.val : Int)) 1 = 1) ↔ mem (a.val : Int) i.val = true := by decide +kernel
theorem frem : ∀ (a : Fin 32) (i : Fin 5), mem (a.val : Int) i.val = true → (0 ≤ Go.bits .andNot .i64 (a.val : Int) (shl .i64 1 (i.val : Int)) ∧ Go.bits .andNot .i64 (a.val : Int) (shl .i64 1 (i.val : Int)) < (a.val : Int)) ∧ ∀ j : Fin 5, mem (Go.bits .andNot .i64 (a.val : Int) (shl .i64 1 (i.val : Int))) j.val = (mem (a.val : Int) j.val && decide (j.val ≠ i.val)) := by decide +kernel
theorem fpow : ∀ (a : Fin 32) (i : Fin 5), Int.tmod (wrap64 (Int.tdiv (a.val : Int) ((2 ^ i.val : Nat) : Int))) 2 = if mem (a.val : Int) i.val = true then 1 else 0 := by decide +kernel
theorem fadd : ∀ (a : Fin 32) (i : Fin 5), (a.val : Int) < ((2 ^ i.val : Nat) : Int) → (0 ≤ wrap64 ((a.val : Int) + ((2 ^ i.val : Nat) : Int)) ∧ wrap64 ((a.val : Int) + ((2 ^ i.val : Nat) : Int)) < ((2 ^ (i.val + 1) : Nat) : Int)) ∧ ∀ j : Fin 5, mem (wrap64 ((a.val : Int) + ((2 ^ i.val : Nat) : Int))) j.val = (mem (a.val : Int) j.val || decide (j.val = i.val)) := by decide +kernel
theorem fext : ∀ a b : Fin 32, (∀ i : Fin 5, mem (a.val : Int) i.val = mem (b.val : Int) i.val) → a = b := by decide +kernel
theorem fle : ∀ a b : Fin 32, (∀ i : Fin 5, mem (a.val : Int) i.val = true → mem (b.val : Int) i.val = true) → (a.val : Int) ≤ (b.val : Int) := by decide +kernel
theorem forp : ∀ (a : Fin 32) (i j : Fin 5), mem (Go.bits .or .i64 (a.val : Int) ((2 ^ i.val : Nat) : Int)) j.val = (mem (a.val : Int) j.val || decide (j.val = i.val)) := by decide +kernel
theorem fpow5 : ∀ i : Fin 5, (0 : Int) ≤ ((2 ^ i.val : Nat) : Int) ∧ ((2 ^ i.val : Nat) : Int) ≤ 31 := by decide +kernel

theorem and_M (x y : Int) (hx : M5 x) (hy : M5 y) : M5 (Go.bits .and .i64 x y) := by
  obtain ⟨a, rfl⟩ := lift5 x hx
  obtain ⟨b, rfl⟩ := lift5 y hy
  exact (fand a b).1
theorem and_mem (x y : Int) (hx : M5 x) (hy : M5 y) (i : Nat) (hi : i < 5) : mem (Go.bits .and .i64 x y) i = (mem x i && mem y i) := by
  obtain ⟨a, rfl⟩ := lift5 x hx
  obtain ⟨b, rfl⟩ := lift5 y hy
  exact (fand a b).2 ⟨i, hi⟩
theorem or_M (x y : Int) (hx : M5 x) (hy : M5 y) : M5 (Go.bits .or .i64 x y) := by
  obtain ⟨a, rfl⟩ := lift5 x hx
  obtain ⟨b, rfl⟩ := lift5 y hy
  exact for5 a b
theorem andNot_sub (x y : Int) (hx : M5 x) (hy : M5 y) : Go.bits .andNot .i64 x y = 0 ↔ sub5 x y := by
  obtain ⟨a, rfl⟩ := lift5 x hx
  obtain ⟨b, rfl⟩ := lift5 y hy
  exact (fandNot a b).trans ⟨fun h i hi => h ⟨i, hi⟩, fun h i => h i.val i.isLt⟩
theorem and_sub (x y : Int) (hx : M5 x) (hy : M5 y) : Go.bits .and .i64 x y = x ↔ sub5 x y := by
  obtain ⟨a, rfl⟩ := lift5 x hx
  obtain ⟨b, rfl⟩ := lift5 y hy
  exact (fandEq a b).trans ⟨fun h i hi => h ⟨i, hi⟩, fun h i => h i.val i.isLt⟩
theorem bit_mem (x : Int) (hx : M5 x) (i : Nat) (hi : i < 5) : Go.bits .and .i64 (shr .i64 x (i : Int)) 1 = 1 ↔ mem x i = true := by
  obtain ⟨a, rfl⟩ := lift5 x hx
  exact fbit a ⟨i, hi⟩
theorem rem_ok (x : Int) (hx : M5 x) (i : Nat) (hi : i < 5) (hm : mem x i = true) : (0 ≤ Go.bits .andNot .i64 x (shl .i64 1 (i : Int)) ∧ Go.bits .andNot .i64 x (shl .i64 1 (i : Int)) < x) ∧ ∀ j, j < 5 → mem (Go.bits .andNot .i64 x (shl .i64 1 (i : Int))) j = (mem x j && decide (j ≠ i)) := by
  obtain ⟨a, rfl⟩ := lift5 x hx
  have h := frem a ⟨i, hi⟩ hm
  exact ⟨h.1, fun j hj => h.2 ⟨j, hj⟩⟩
theorem pow_mem (x : Int) (hx : M5 x) (i : Nat) (hi : i < 5) : Int.tmod (wrap64 (Int.tdiv x ((2 ^ i : Nat) : Int))) 2 = if mem x i = true then 1 else 0 := by
  obtain ⟨a, rfl⟩ := lift5 x hx
  exact fpow a ⟨i, hi⟩
theorem add_ok (x : Int) (hx : M5 x) (i : Nat) (hi : i < 5) (h : x < ((2 ^ i : Nat) : Int)) : (0 ≤ wrap64 (x + ((2 ^ i : Nat) : Int)) ∧ wrap64 (x + ((2 ^ i : Nat) : Int)) < ((2 ^ (i + 1) : Nat) : Int)) ∧ ∀ j, j < 5 → mem (wrap64 (x + ((2 ^ i : Nat) : Int))) j = (mem x j || decide (j = i)) := by
  obtain ⟨a, rfl⟩ := lift5 x hx
  have h := fadd a ⟨i, hi⟩ h
  exact ⟨h.1, fun j hj => h.2 ⟨j, hj⟩⟩
theorem ext5 (x y : Int) (hx : M5 x) (hy : M5 y) (h : ∀ i, i < 5 → mem x i = mem y i) : x = y := by
  obtain ⟨a, rfl⟩ := lift5 x hx
  obtain ⟨b, rfl⟩ := lift5 y hy
  rw [fext a b (fun i => h i.val i.isLt)]
theorem le5 (x y : Int) (hx : M5 x) (hy : M5 y) (h : sub5 x y) : x ≤ y := by
  obtain ⟨a, rfl⟩ := lift5 x hx
  obtain ⟨b, rfl⟩ := lift5 y hy
  exact fle a b (fun i => h i.val i.isLt)
theorem orp_mem (x : Int) (hx : M5 x) (i : Nat) (hi : i < 5) (j : Nat) (hj : j < 5) : mem (Go.bits .or .i64 x ((2 ^ i : Nat) : Int)) j = (mem x j || decide (j = i)) := by
  obtain ⟨a, rfl⟩ := lift5 x hx
  exact forp a ⟨i, hi⟩ ⟨j, hj⟩
theorem antisymm5 (x y : Int) (hx : M5 x) (hy : M5 y) (h1 : sub5 x y) (h2 : sub5 y x) : x = y := by
  apply ext5 x y hx hy
  intro i hi
  cases a : mem x i <;> cases b : mem y i
  · rfl
  · exact absurd (h2 i hi b) (by rw [a]; exact Bool.false_ne_true)
  · exact absurd (h1 i hi a) (by rw [b]; exact Bool.false_ne_true)
  · rfl
theorem lt5 (x : Int) (i : Nat) (h : x < ((2 ^ i : Nat) : Int)) (hi : i ≤ 5) : x ≤ 31 := by
  have : (2 : Nat) ^ i ≤ 2 ^ 5 := Nat.pow_le_pow_right (by omega) hi
  omega

/-- A set of skills that holds what each of its own needs. -/
def clo (nd : Nat → Int) (x : Int) : Prop := ∀ i, i < 5 → mem x i = true → sub5 (nd i) x
/-- It holds every closed set within X. -/
def top (nd : Nat → Int) (X x : Int) : Prop := ∀ z, M5 z → clo nd z → sub5 z X → sub5 z x
def best (nd : Nat → Int) (X x : Int) : Prop := M5 x ∧ clo nd x ∧ top nd X x ∧ sub5 x X

theorem best_unique (nd : Nat → Int) (X x y : Int) (hx : best nd X x) (hy : best nd X y) : x = y :=
  antisymm5 x y hx.1 hy.1 (hy.2.2.1 x hx.1 hx.2.1 hx.2.2.2) (hx.2.2.1 y hy.1 hy.2.1 hy.2.2.2)
def needs (al bl : List Int) (i : Nat) : Int := Go.bits .or .i64 (rd al (i : Int)) (rd bl (i : Int))

/-- What ValidOffer tells. -/
def okO (a b c : Int) (l : List Int) : Bool :=
  decide (0 ≤ a ∧ a ≤ 20) && decide (a ≤ b ∧ b ≤ 20) && decide (0 ≤ c ∧ c ≤ 31) && decide (l.length = 5) && !(l.any fun n => !decide (0 ≤ n ∧ n ≤ 31))

theorem implValid_val (a b c : Int) (l : List Int) : impl_ValidOffer.f a b c l = some (okO a b c l) := rfl

theorem implAgree_l1 (a0 a1 a2 : Int) (al : List Int) (b0 b1 b2 : Int) (bl : List Int) (ha : al.length = 5) (hb : bl.length = 5) (hn : ∀ i, i < 5 → M5 (needs al bl i)) (X : Int) :
    ∀ (n : Nat) (x : Int) (i : Nat) (b : Bool) (k : Nat), 12 * x.toNat + (if b = true then 6 else 0) + (5 - i) ≤ n → 2 * n + 2 < k → M5 x → top (needs al bl) X x → sub5 x X → i ≤ 5 → (b = false → ∀ j, j < i → mem x j = true → sub5 (needs al bl j) x) →
    ∃ r, impl_Agree.l1 k x b (i : Int) a0 a1 a2 al b0 b1 b2 bl = some (mn a1 b1, r, true) ∧ best (needs al bl) X r := by
  intro n
  induction n with
  | zero =>
    intro x i b k h1 hk hM hT hS hi hB
    have hi5 : i = 5 := by omega
    subst hi5
    have hb0 : b = false := by
      cases b
      · rfl
      · simp at h1
    subst hb0
    obtain ⟨k, rfl⟩ : ∃ m, k = m + 2 := ⟨k - 2, by omega⟩
    rw [impl_Agree.l1, if_neg (by omega), impl_Agree.l0, if_neg Bool.false_ne_true]
    exact ⟨x, rfl, hM, hB rfl, hT, hS⟩
  | succ n ih =>
    intro x i b k h1 hk hM hT hS hi hB
    by_cases hi5 : i = 5
    · subst hi5
      obtain ⟨k, rfl⟩ : ∃ m, k = m + 2 := ⟨k - 2, by omega⟩
      rw [impl_Agree.l1, if_neg (by omega), impl_Agree.l0]
      cases b
      · rw [if_neg Bool.false_ne_true]
        exact ⟨x, rfl, hM, hB rfl, hT, hS⟩
      · rw [if_pos rfl]
        rw [if_pos rfl] at h1
        exact ih x 0 false k (by rw [if_neg Bool.false_ne_true]; omega) (by omega) hM hT hS (by omega) (fun _ j hj => absurd hj (Nat.not_lt_zero _))
    · obtain ⟨k, rfl⟩ : ∃ m, k = m + 1 := ⟨k - 1, by omega⟩
      rw [impl_Agree.l1, if_pos (by omega), if_pos (by omega), step_nat i (by omega)]
      by_cases hm : mem x i = true
      · rw [if_pos ((bit_mem x hM i (by omega)).2 hm), if_pos (by omega), if_pos (by omega)]
        by_cases hs : sub5 (needs al bl i) x
        · rw [if_pos (show Go.bits .andNot .i64 (Go.bits .or .i64 (rd al (i : Int)) (rd bl (i : Int))) x = 0 from (andNot_sub _ x (hn i (by omega)) hM).2 hs)]
          refine ih x (i + 1) b k (by omega) (by omega) hM hT hS (by omega) ?_
          intro hbf j hj hmj
          by_cases e : j = i
          · rw [e]; exact hs
          · exact hB hbf j (by omega) hmj
        · rw [if_neg (show ¬ Go.bits .andNot .i64 (Go.bits .or .i64 (rd al (i : Int)) (rd bl (i : Int))) x = 0 from fun h => hs ((andNot_sub _ x (hn i (by omega)) hM).1 h))]
          have hr := rem_ok x hM i (by omega) hm
          generalize Go.bits .andNot .i64 x (shl .i64 1 (i : Int)) = x' at hr ⊢
          unfold M5 at hM
          have hM' : M5 x' := ⟨hr.1.1, by omega⟩
          refine ih x' (i + 1) true k (by rw [if_pos rfl]; omega) (by omega) hM' ?_ ?_ (by omega) (fun h => by cases h)
          · intro z hz hc hzX j hj hzj
            rw [hr.2 j hj, hT z hz hc hzX j hj hzj, Bool.true_and]
            apply decide_eq_true
            intro e
            subst e
            exact hs (fun l hl hnl => hT z hz hc hzX l hl (hc j hj hzj l hl hnl))
          · intro j hj hxj
            rw [hr.2 j hj] at hxj
            exact hS j hj (Bool.and_eq_true_iff.1 hxj).1
      · rw [if_neg (fun h => hm ((bit_mem x hM i (by omega)).1 h))]
        refine ih x (i + 1) b k (by omega) (by omega) hM hT hS (by omega) ?_
        intro hbf j hj hmj
        by_cases e : j = i
        · rw [e] at hmj; exact absurd hmj hm
        · exact hB hbf j (by omega) hmj

theorem implAgree_l0 (a0 a1 a2 : Int) (al : List Int) (b0 b1 b2 : Int) (bl : List Int) (ha : al.length = 5) (hb : bl.length = 5) (hn : ∀ i, i < 5 → M5 (needs al bl i)) (X : Int) (hX : M5 X) (k : Nat) (hk : 900 ≤ k) :
    ∃ r, impl_Agree.l0 k X true a0 a1 a2 al b0 b1 b2 bl = some (mn a1 b1, r, true) ∧ best (needs al bl) X r := by
  obtain ⟨k, rfl⟩ : ∃ m, k = m + 1 := ⟨k - 1, by omega⟩
  rw [impl_Agree.l0, if_pos rfl]
  have h : X.toNat ≤ 31 := by unfold M5 at hX; omega
  exact implAgree_l1 a0 a1 a2 al b0 b1 b2 bl ha hb hn X 400 X 0 false k (by rw [if_neg Bool.false_ne_true]; omega) (by omega) hX (fun z _ _ h => h) (fun i _ h => h) (by omega) (fun _ j hj => absurd hj (Nat.not_lt_zero _))

theorem okO_iff (a b c : Int) (l : List Int) : okO a b c l = true ↔ (0 ≤ a ∧ a ≤ 20) ∧ (a ≤ b ∧ b ≤ 20) ∧ M5 c ∧ l.length = 5 ∧ ∀ x ∈ l, M5 x := by
  simp only [okO, Bool.and_eq_true, Bool.not_eq_true', List.any_eq_false, Bool.not_eq_false, decide_eq_true_eq, M5, Bool.not_eq_true, decide_eq_false_iff_not, Decidable.not_not, and_assoc]

theorem rd_M (l : List Int) (h : ∀ x ∈ l, M5 x) (i : Nat) (hi : i < l.length) : M5 (rd l (i : Int)) := by
  rw [rd_nat l i hi]; exact h _ (List.getElem_mem _)

theorem needs_M (al bl : List Int) (ha : al.length = 5) (hb : bl.length = 5) (h1 : ∀ x ∈ al, M5 x) (h2 : ∀ x ∈ bl, M5 x) : ∀ i, i < 5 → M5 (needs al bl i) := by
  intro i hi
  exact or_M _ _ (rd_M al h1 i (by omega)) (rd_M bl h2 i (by omega))

theorem implAgree_bad (a0 a1 a2 : Int) (al : List Int) (b0 b1 b2 : Int) (bl : List Int) (h : ¬ (okO a0 a1 a2 al = true ∧ okO b0 b1 b2 bl = true ∧ ¬ mn a1 b1 < mx a0 b0)) (k : Nat) (hk : 1 ≤ k) : impl_Agree.f k a0 a1 a2 al b0 b1 b2 bl = some (-1, 0, false) := by
  obtain ⟨k, rfl⟩ : ∃ m, k = m + 1 := ⟨k - 1, by omega⟩
  unfold impl_Agree.f
  rw [implValid_val, implValid_val, Option.bind_some, Option.bind_some]
  by_cases h1 : okO a0 a1 a2 al = true
  · by_cases h2 : okO b0 b1 b2 bl = true
    · have h3 : mn a1 b1 < mx a0 b0 := Decidable.byContradiction (fun h3 => h ⟨h1, h2, h3⟩)
      rw [if_pos h1, if_pos h2, decide_eq_true h3, impl_Agree.j0, if_pos rfl]
    · rw [if_pos h1, if_neg h2, impl_Agree.j0, if_pos rfl]
  · rw [if_neg h1, impl_Agree.j0, if_pos rfl]

theorem implAgree_good (a0 a1 a2 : Int) (al : List Int) (b0 b1 b2 : Int) (bl : List Int) (h : okO a0 a1 a2 al = true ∧ okO b0 b1 b2 bl = true ∧ ¬ mn a1 b1 < mx a0 b0) (k : Nat) (hk : 1000 ≤ k) :
    ∃ r, impl_Agree.f k a0 a1 a2 al b0 b1 b2 bl = some (mn a1 b1, r, true) ∧ best (needs al bl) (Go.bits .and .i64 a2 b2) r := by
  obtain ⟨k, rfl⟩ : ∃ m, k = m + 1 := ⟨k - 1, by omega⟩
  obtain ⟨h1, h2, h3⟩ := h
  have g1 := (okO_iff _ _ _ _).1 h1
  have g2 := (okO_iff _ _ _ _).1 h2
  unfold impl_Agree.f
  rw [implValid_val, implValid_val, Option.bind_some, Option.bind_some, if_pos h1, if_pos h2, decide_eq_false h3, impl_Agree.j0, if_neg Bool.false_ne_true]
  exact implAgree_l0 a0 a1 a2 al b0 b1 b2 bl g1.2.2.2.1 g2.2.2.2.1 (needs_M al bl g1.2.2.2.1 g2.2.2.2.1 g1.2.2.2.2 g2.2.2.2.2) _ (and_M _ _ g1.2.2.1 g2.2.2.1) k (by omega)

theorem inRange_val (x a b : Int) : spec_inRange.f x a b = some (decide (a ≤ x ∧ x ≤ b)) := by
  unfold spec_inRange.f
  by_cases h : a ≤ x
  · rw [if_pos h]; simp [h]
  · rw [if_neg h]; simp [h]

theorem specPower_l0 : ∀ (i k a : Nat), i < k → i ≤ 5 → a * 2 ^ i ≤ 1000000 → spec_power.l0 k (i : Int) (a : Int) = some ((a * 2 ^ i : Nat) : Int) := by
  intro i
  induction i with
  | zero =>
    intro k a hk _ _
    obtain ⟨k, rfl⟩ : ∃ m, k = m + 1 := ⟨k - 1, by omega⟩
    rw [spec_power.l0, if_neg (by omega), Nat.pow_zero, Nat.mul_one]
  | succ i ih =>
    intro k a hk h5 ha
    obtain ⟨k, rfl⟩ : ∃ m, k = m + 1 := ⟨k - 1, by omega⟩
    have e : a * 2 ^ (i + 1) = 2 * a * 2 ^ i := by rw [Nat.pow_succ, Nat.mul_comm (2 ^ i) 2, ← Nat.mul_assoc, Nat.mul_comm a 2]
    rw [e] at ha
    have hp : 1 ≤ 2 ^ i := Nat.one_le_two_pow
    have h2 : 2 * a * 1 ≤ 2 * a * 2 ^ i := Nat.mul_le_mul_left _ hp
    rw [spec_power.l0, if_pos (by omega), (IntWalk.wrap64_in (((i + 1 : Nat) : Int) - 1) (by omega)).trans (show ((i + 1 : Nat) : Int) - 1 = (i : Int) by omega), (IntWalk.wrap64_in (2 * (a : Int)) (by omega)).trans (show 2 * (a : Int) = ((2 * a : Nat) : Int) by omega), ih k (2 * a) (by omega) (by omega) ha, e]

theorem specPower_ok (i : Nat) (hi : i ≤ 5) (k : Nat) (hk : 6 ≤ k) : spec_power.f k (i : Int) = some ((2 ^ i : Nat) : Int) := by
  have h2 : 2 ^ i ≤ 2 ^ 5 := Nat.pow_le_pow_right (by omega) hi
  have h := specPower_l0 i k 1 (by omega) hi (by omega)
  rw [Nat.one_mul] at h
  exact h

theorem specPower5 (k : Nat) (hk : 6 ≤ k) : spec_power.f k 5 = some 32 := specPower_ok 5 (by omega) k hk

theorem specValid_l0 (a b c : Int) (l : List Int) (hl : l.length ≤ 2000000) : ∀ (d k i : Nat), i + d = l.length → d + 7 < k → spec_validOffer.l0 k (i : Int) a b c l = some (decide (0 ≤ a ∧ a ≤ 20) && decide (a ≤ b ∧ b ≤ 20) && decide (0 ≤ c ∧ c ≤ 31) && decide (l.length = 5) && !((l.drop i).any fun n => !decide (0 ≤ n ∧ n ≤ 31))) := by
  intro d
  induction d with
  | zero =>
    intro k i hi hk
    obtain ⟨k, rfl⟩ : ∃ m, k = m + 1 := ⟨k - 1, by omega⟩
    rw [spec_validOffer.l0, if_neg (by omega), List.drop_eq_nil_of_le (by omega), inRange_val, inRange_val, specPower5 k (by omega)]
    simp only [Option.bind_some, inRange_val, show wrap64 (32 - 1) = 31 from IntWalk.wrap64_in (32 - 1) (by omega), List.any_nil, Bool.not_false, Bool.and_true]
    by_cases h1 : l.length = 5
    · rw [if_pos (by omega), decide_eq_true h1, Bool.and_true]
      by_cases h2 : 0 ≤ a ∧ a ≤ 20
      · rw [decide_eq_true h2, if_pos rfl, Bool.true_and]
        by_cases h3 : a ≤ b ∧ b ≤ 20
        · rw [decide_eq_true h3, if_pos rfl, Bool.true_and]
        · rw [decide_eq_false h3, if_neg Bool.false_ne_true, Bool.false_and]
      · rw [decide_eq_false h2, if_neg Bool.false_ne_true, Bool.false_and, Bool.false_and]
    · rw [if_neg (by omega), decide_eq_false h1, Bool.and_false]
  | succ d ih =>
    intro k i hi hk
    obtain ⟨k, rfl⟩ : ∃ m, k = m + 1 := ⟨k - 1, by omega⟩
    rw [spec_validOffer.l0, if_pos (by omega), if_pos (by omega), specPower5 k (by omega), Option.bind_some, inRange_val, Option.bind_some, step_nat i (by omega), rd_nat l i (by omega), List.drop_eq_getElem_cons (by omega : i < l.length), List.any_cons, show wrap64 (32 - 1) = 31 from IntWalk.wrap64_in (32 - 1) (by omega)]
    by_cases h : 0 ≤ l[i]'(by omega) ∧ l[i]'(by omega) ≤ 31
    · rw [decide_eq_true h, if_pos rfl, ih k (i + 1) (by omega) (by omega), Bool.not_true, Bool.false_or]
    · rw [decide_eq_false h, if_neg Bool.false_ne_true, Bool.not_false, Bool.true_or, Bool.not_true, Bool.and_false]

theorem specvalid_ok (a b c : Int) (l : List Int) (hl : l.length ≤ 2000000) (k : Nat) (hk : l.length + 7 < k) : spec_validOffer.f k a b c l = some (okO a b c l) := by
  unfold spec_validOffer.f
  have h := specValid_l0 a b c l hl l.length k 0 (by omega) hk
  rw [List.drop_zero] at h
  exact h

theorem specBit_ok (x : Int) (hx : M5 x) (i : Nat) (hi : i < 5) (k : Nat) (hk : 6 ≤ k) : spec_bit.f k x (i : Int) = some (if mem x i = true then 1 else 0) := by
  unfold spec_bit.f
  have hp : 1 ≤ 2 ^ i := Nat.one_le_two_pow
  rw [specPower_ok i (by omega) k hk, Option.bind_some, if_neg (show ¬ ((2 ^ i : Nat) : Int) = 0 by omega), pow_mem x hx i hi]

/-- The needs of the two offers, the first i of them. -/
def pre (al bl : List Int) (i : Nat) : List Int := (List.range i).map fun j => needs al bl j
theorem pre_length (al bl : List Int) (i : Nat) : (pre al bl i).length = i := by simp [pre]
theorem pre_rd (al bl : List Int) (n i : Nat) (h : i < n) : rd (pre al bl n) (i : Int) = needs al bl i := by
  rw [rd_nat _ i (by rw [pre_length]; exact h)]; simp [pre]
theorem pre_succ (al bl : List Int) (i : Nat) : pre al bl i ++ [Go.bits .or .i64 (rd al (i : Int)) (rd bl (i : Int))] = pre al bl (i + 1) := by
  unfold pre; rw [List.range_succ, List.map_append]; rfl

theorem specClosed_l1 (al bl : List Int) (hn : ∀ i, i < 5 → M5 (needs al bl i)) (X : Int) :
    ∀ (n : Nat) (x acc : Int) (i k : Nat), 10 * x.toNat + (5 - i) ≤ n → 2 * n + 10 < k → M5 x → top (needs al bl) X x → sub5 x X → i ≤ 5 → 0 ≤ acc → acc < ((2 ^ i : Nat) : Int) →
    (∀ j, j < 5 → (mem acc j = true ↔ j < i ∧ mem x j = true ∧ sub5 (needs al bl j) x)) →
    ∃ r, spec_closed.l1 k (pre al bl 5) x acc (i : Int) = some r ∧ best (needs al bl) X r := by
  intro n
  induction n with
  | zero =>
    intro x acc i k h1 hk hM hT hS hi h0 ha hA
    have hi5 : i = 5 := by omega
    subst hi5
    obtain ⟨k, rfl⟩ : ∃ m, k = m + 2 := ⟨k - 2, by omega⟩
    have hMa : M5 acc := ⟨h0, lt5 acc 5 ha (by omega)⟩
    have hle := le5 acc x hMa hM (fun j hj h => ((hA j hj).1 h).2.1)
    have e : acc = x := by unfold M5 at hM; omega
    subst e
    rw [spec_closed.l1, if_neg (by omega), if_pos rfl]
    exact ⟨acc, rfl, hM, fun j hj h => ((hA j hj).1 h).2.2, hT, hS⟩
  | succ n ih =>
    intro x acc i k h1 hk hM hT hS hi h0 ha hA
    have hMa : M5 acc := ⟨h0, lt5 acc i ha hi⟩
    by_cases hi5 : i = 5
    · subst hi5
      obtain ⟨k, rfl⟩ : ∃ m, k = m + 2 := ⟨k - 2, by omega⟩
      rw [spec_closed.l1, if_neg (by omega)]
      by_cases e : acc = x
      · subst e
        rw [if_pos rfl]
        exact ⟨acc, rfl, hM, fun j hj h => ((hA j hj).1 h).2.2, hT, hS⟩
      · rw [if_neg e, spec_closed.l0]
        have hle := le5 acc x hMa hM (fun j hj h => ((hA j hj).1 h).2.1)
        have hM' := hM
        unfold M5 at hM'
        refine ih acc 0 0 k (by omega) (by omega) hMa ?_ ?_ (by omega) (by omega) (by decide) ?_
        · intro z hz hc hzX j hj hzj
          have hzx := hT z hz hc hzX
          exact (hA j hj).2 ⟨hj, hzx j hj hzj, fun l hl hnl => hzx l hl (hc j hj hzj l hl hnl)⟩
        · intro j hj h
          exact hS j hj ((hA j hj).1 h).2.1
        · intro j hj
          exact ⟨fun h => absurd h (by show ¬ (0 : Nat).testBit j = true; rw [Nat.zero_testBit]; exact Bool.false_ne_true), fun h => absurd h.1 (Nat.not_lt_zero _)⟩
    · obtain ⟨k, rfl⟩ : ∃ m, k = m + 1 := ⟨k - 1, by omega⟩
      have step : ∀ acc', acc' = acc → (¬ (mem x i = true ∧ sub5 (needs al bl i) x)) → ∃ r, spec_closed.l1 k (pre al bl 5) x acc' ((i + 1 : Nat) : Int) = some r ∧ best (needs al bl) X r := by
        intro acc' e hno
        subst e
        refine ih x acc' (i + 1) k (by omega) (by omega) hM hT hS (by omega) h0 ?_ ?_
        · have : (2 : Nat) ^ (i + 1) = 2 * 2 ^ i := by rw [Nat.pow_succ, Nat.mul_comm]
          omega
        · intro j hj
          rw [hA j hj]
          constructor
          · exact fun h => ⟨by omega, h.2⟩
          · intro h
            refine ⟨?_, h.2⟩
            by_cases e : j = i
            · subst e; exact absurd h.2 hno
            · omega
      rw [spec_closed.l1, if_pos (by omega), specBit_ok x hM i (by omega) k (by omega), Option.bind_some, step_nat i (by omega)]
      by_cases hm : mem x i = true
      · rw [if_pos hm, if_pos rfl, if_pos (by omega), if_pos (by rw [pre_length]; omega), pre_rd al bl 5 i (by omega)]
        by_cases hs : sub5 (needs al bl i) x
        · rw [if_pos ((and_sub _ x (hn i (by omega)) hM).2 hs), specPower_ok i (by omega) k (by omega), Option.bind_some]
          have hadd := add_ok acc hMa i (by omega) ha
          generalize wrap64 (acc + ((2 ^ i : Nat) : Int)) = acc' at hadd ⊢
          refine ih x acc' (i + 1) k (by omega) (by omega) hM hT hS (by omega) hadd.1.1 hadd.1.2 ?_
          intro j hj
          rw [hadd.2 j hj, Bool.or_eq_true, hA j hj, decide_eq_true_eq]
          constructor
          · rintro (h | h)
            · exact ⟨by omega, h.2⟩
            · subst h; exact ⟨by omega, hm, hs⟩
          · intro h
            by_cases e : j = i
            · exact Or.inr e
            · exact Or.inl ⟨by omega, h.2⟩
        · rw [if_neg (fun h => hs ((and_sub _ x (hn i (by omega)) hM).1 h))]
          exact step acc rfl (fun h => hs h.2)
      · rw [if_neg hm, if_neg (show ¬ (0 : Int) = 1 by omega)]
        exact step acc rfl (fun h => hm h.1)

theorem specClosed_ok (al bl : List Int) (hn : ∀ i, i < 5 → M5 (needs al bl i)) (X : Int) (hX : M5 X) (k : Nat) (hk : 900 ≤ k) :
    ∃ r, spec_closed.f k (pre al bl 5) X = some r ∧ best (needs al bl) X r := by
  obtain ⟨k, rfl⟩ : ∃ m, k = m + 1 := ⟨k - 1, by omega⟩
  unfold spec_closed.f
  rw [spec_closed.l0]
  have h : X.toNat ≤ 31 := by unfold M5 at hX; omega
  refine specClosed_l1 al bl hn X 320 X 0 0 k (by omega) (by omega) hX (fun z _ _ h => h) (fun i _ h => h) (by omega) (by omega) (by decide) ?_
  intro j hj
  exact ⟨fun h => absurd h (by show ¬ (0 : Nat).testBit j = true; rw [Nat.zero_testBit]; exact Bool.false_ne_true), fun h => absurd h.1 (Nat.not_lt_zero _)⟩

theorem specAgree_l0 (a0 a1 a2 : Int) (al : List Int) (b0 b1 b2 : Int) (bl : List Int) (ha : al.length = 5) (hb : bl.length = 5) (hn : ∀ i, i < 5 → M5 (needs al bl i)) (hX : M5 (Go.bits .and .i64 a2 b2)) :
    ∀ (d k i : Nat), i + d = 5 → 910 + d ≤ k → ∃ r, spec_Agree.l0 k (pre al bl i) (i : Int) a0 a1 a2 al b0 b1 b2 bl = some (mn a1 b1, r, true) ∧ best (needs al bl) (Go.bits .and .i64 a2 b2) r := by
  intro d
  induction d with
  | zero =>
    intro k i hi hk
    have hi5 : i = 5 := by omega
    subst hi5
    obtain ⟨k, rfl⟩ : ∃ m, k = m + 1 := ⟨k - 1, by omega⟩
    obtain ⟨r, hr, hbest⟩ := specClosed_ok al bl hn _ hX k (by omega)
    rw [spec_Agree.l0, if_neg (by omega), hr, Option.bind_some]
    exact ⟨r, rfl, hbest⟩
  | succ d ih =>
    intro k i hi hk
    obtain ⟨k, rfl⟩ : ∃ m, k = m + 1 := ⟨k - 1, by omega⟩
    rw [spec_Agree.l0, if_pos (by omega), if_pos (by omega), if_pos (show (i : Int) < (al.length : Int) by omega), if_pos (show (i : Int) < (bl.length : Int) by omega), if_pos (show (pre al bl i).length < 17592186044416 by rw [pre_length]; omega), pre_succ, step_nat i (by omega)]
    exact ih k (i + 1) (by omega) (by omega)

theorem specAgree_bad (a0 a1 a2 : Int) (al : List Int) (b0 b1 b2 : Int) (bl : List Int) (hl1 : al.length ≤ 2000000) (hl2 : bl.length ≤ 2000000) (h : ¬ (okO a0 a1 a2 al = true ∧ okO b0 b1 b2 bl = true ∧ ¬ mn a1 b1 < mx a0 b0)) (k : Nat) (hk : al.length + bl.length + 10 < k) : spec_Agree.f k a0 a1 a2 al b0 b1 b2 bl = some (-1, 0, false) := by
  obtain ⟨k, rfl⟩ : ∃ m, k = m + 1 := ⟨k - 1, by omega⟩
  unfold spec_Agree.f
  rw [specvalid_ok a0 a1 a2 al hl1 _ (by omega), specvalid_ok b0 b1 b2 bl hl2 _ (by omega), Option.bind_some, Option.bind_some]
  by_cases h1 : okO a0 a1 a2 al = true
  · by_cases h2 : okO b0 b1 b2 bl = true
    · have h3 : mn a1 b1 < mx a0 b0 := Decidable.byContradiction (fun h3 => h ⟨h1, h2, h3⟩)
      rw [if_pos h1, if_pos h2, decide_eq_true h3, spec_Agree.j0, if_pos rfl]
    · rw [if_pos h1, if_neg h2, spec_Agree.j0, if_pos rfl]
  · rw [if_neg h1, spec_Agree.j0, if_pos rfl]

theorem specAgree_good (a0 a1 a2 : Int) (al : List Int) (b0 b1 b2 : Int) (bl : List Int) (h : okO a0 a1 a2 al = true ∧ okO b0 b1 b2 bl = true ∧ ¬ mn a1 b1 < mx a0 b0) (k : Nat) (hk : 1000 ≤ k) :
    ∃ r, spec_Agree.f k a0 a1 a2 al b0 b1 b2 bl = some (mn a1 b1, r, true) ∧ best (needs al bl) (Go.bits .and .i64 a2 b2) r := by
  obtain ⟨k, rfl⟩ : ∃ m, k = m + 1 := ⟨k - 1, by omega⟩
  obtain ⟨h1, h2, h3⟩ := h
  have g1 := (okO_iff _ _ _ _).1 h1
  have g2 := (okO_iff _ _ _ _).1 h2
  unfold spec_Agree.f
  rw [specvalid_ok a0 a1 a2 al (by omega) _ (by omega), specvalid_ok b0 b1 b2 bl (by omega) _ (by omega), Option.bind_some, Option.bind_some, if_pos h1, if_pos h2, decide_eq_false h3, spec_Agree.j0, if_neg Bool.false_ne_true]
  exact specAgree_l0 a0 a1 a2 al b0 b1 b2 bl g1.2.2.2.1 g2.2.2.2.1 (needs_M al bl g1.2.2.2.1 g2.2.2.2.1 g1.2.2.2.2 g2.2.2.2.2) (and_M _ _ g1.2.2.1 g2.2.2.1) 5 k 0 (by omega) (by omega)

/-- What both tell of two offers. -/
theorem agree_ok (a0 a1 a2 : Int) (al : List Int) (b0 b1 b2 : Int) (bl : List Int) (hl1 : al.length ≤ 2000000) (hl2 : bl.length ≤ 2000000) :
    ∃ r : Int × Int × Bool, (∀ k, al.length + bl.length + 1010 ≤ k → impl_Agree.f k a0 a1 a2 al b0 b1 b2 bl = some r) ∧ (∀ k, al.length + bl.length + 1010 ≤ k → spec_Agree.f k a0 a1 a2 al b0 b1 b2 bl = some r) ∧
      ((r = (-1, 0, false) ∧ ¬ (okO a0 a1 a2 al = true ∧ okO b0 b1 b2 bl = true ∧ ¬ mn a1 b1 < mx a0 b0)) ∨ (∃ s, r = (mn a1 b1, s, true) ∧ best (needs al bl) (Go.bits .and .i64 a2 b2) s ∧ (okO a0 a1 a2 al = true ∧ okO b0 b1 b2 bl = true ∧ ¬ mn a1 b1 < mx a0 b0))) := by
  by_cases h : okO a0 a1 a2 al = true ∧ okO b0 b1 b2 bl = true ∧ ¬ mn a1 b1 < mx a0 b0
  · obtain ⟨s, _, hs⟩ := implAgree_good a0 a1 a2 al b0 b1 b2 bl h 1000 (by omega)
    refine ⟨(mn a1 b1, s, true), ?_, ?_, Or.inr ⟨s, rfl, hs, h⟩⟩
    · intro k hk
      obtain ⟨r, h1, h2⟩ := implAgree_good a0 a1 a2 al b0 b1 b2 bl h k (by omega)
      rw [h1, best_unique _ _ _ _ h2 hs]
    · intro k hk
      obtain ⟨r, h1, h2⟩ := specAgree_good a0 a1 a2 al b0 b1 b2 bl h k (by omega)
      rw [h1, best_unique _ _ _ _ h2 hs]
  · exact ⟨(-1, 0, false), fun k hk => implAgree_bad a0 a1 a2 al b0 b1 b2 bl h k (by omega), fun k hk => specAgree_bad a0 a1 a2 al b0 b1 b2 bl hl1 hl2 h k (by omega), Or.inl ⟨rfl, h⟩⟩

theorem FnExactAgree (a b c : Int) (l : List Int) (a' b' c' : Int) (l' : List Int) (hl : l.length ≤ maxLen) (hl' : l'.length ≤ maxLen) : ∃ k, laws_FnExactAgree.f k a b c l a' b' c' l' = some true := by
  refine ⟨l.length + l'.length + 2000, ?_⟩
  unfold laws_FnExactAgree.f
  rw [sz_ok a b c l 1048576 hl (by omega) (by omega), Option.bind_some]
  by_cases h : (1048576 : Int) - (l.length : Int) < 0
  · rw [if_pos h, if_pos (show (-1 : Int) < 0 by omega)]
  · rw [if_neg h, if_neg h, sz_ok a' b' c' l' _ hl' (by omega) (by omega), Option.bind_some]
    by_cases h' : (1048576 : Int) - (l.length : Int) - (l'.length : Int) < 0
    · rw [if_pos h', if_pos (show (-1 : Int) < 0 by omega)]
    · obtain ⟨r, hi, hs, _⟩ := agree_ok a b c l a' b' c' l' (by omega) (by omega)
      rw [if_neg h', if_neg h', toOffer_ok a b c l (by omega) _ (by omega), toOffer_ok a' b' c' l' (by omega) _ (by omega)]
      simp only [Option.bind_some]
      rw [hi _ (by omega), hs _ (by omega)]
      simp only [Option.bind_some, bne_self_eq_false, if_true]
      rw [show l.length + l'.length + 2000 = l.length + l'.length + 1999 + 1 from rfl, laws_FnExactAgree.j0, if_neg Bool.false_ne_true, toOffer_ok a b c l (by omega) _ (by omega), Option.bind_some]
      show ((laws_eqOffer.f _ a b c l a b c l).bind _) = _
      rw [eqOffer_ok a b c l (by omega) _ (by omega), Option.bind_some, if_pos rfl, toOffer_ok a' b' c' l' (by omega) _ (by omega), Option.bind_some]
      show ((laws_eqOffer.f _ a' b' c' l' a' b' c' l').bind _) = _
      rw [eqOffer_ok a' b' c' l' (by omega) _ (by omega), Option.bind_some, if_pos rfl]

end Go.Proofs.Ytnolmimfpnngjaa.Pure
