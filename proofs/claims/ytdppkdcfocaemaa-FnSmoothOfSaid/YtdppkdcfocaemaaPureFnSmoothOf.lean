/- What waits is the depth less the rate: FnSmoothOf returns true for every list of bytes. Conditions: none. -/
import Derived.Test.YtdppkdcfocaemaaHFnSmoothOfx4
namespace Go.Proofs.Ytdppkdcfocaemaa.Pure
open Go.RowKit Go.Proofs.Ytdppkdcfocaemaa.HFnSmoothOf Go.Proofs.YtdppkdcfocaemaaW.PrintWords Go.Proofs.YtdppkdcfocaemaaW.PrintLast
open Go
set_option linter.unusedVariables false
set_option linter.unusedSimpArgs false

theorem xor64_range (a b : Int) (ha : 0 ≤ a) (ha' : a < 1073741824) (hb : 0 ≤ b) (hb' : b < 1073741824) :
    0 ≤ Go.bits .xor .i64 a b ∧ Go.bits .xor .i64 a b < 1073741824 := by
  obtain ⟨m, rfl⟩ := Int.eq_ofNat_of_zero_le ha
  obtain ⟨n, rfl⟩ := Int.eq_ofNat_of_zero_le hb
  have hm : m < 2 ^ 30 := by omega
  have hn : n < 2 ^ 30 := by omega
  have hx : m ^^^ n < 2 ^ 30 := Nat.xor_lt_two_pow hm hn
  have hm' : m % 2 ^ IntKind.i64.bits = m := Nat.mod_eq_of_lt (Nat.lt_of_lt_of_le hm (by decide))
  have hn' : n % 2 ^ IntKind.i64.bits = n := Nat.mod_eq_of_lt (Nat.lt_of_lt_of_le hn (by decide))
  simp only [Go.bits, BitVec.ofInt_natCast, BitVec.toNat_xor, BitVec.toNat_ofNat, hm', hn']
  rw [IntWalk.i64_in ((m ^^^ n : Nat) : Int) (by omega)]
  omega

theorem rd_range (l : List Int) (hl : ∀ x ∈ l, 0 ≤ x ∧ x ≤ 255) (i : Int) : 0 ≤ rd l i ∧ rd l i ≤ 255 := by
  unfold rd
  rw [List.getD_eq_getElem?_getD]
  cases h : l[i.toNat]? with
  | none => simp
  | some v => exact hl v (List.mem_of_getElem? h)

theorem tmod_range (a n : Int) (ha : 0 ≤ a) (hn : 1 ≤ n) : 0 ≤ Int.tmod a n ∧ Int.tmod a n < n :=
  ⟨Int.tmod_nonneg n ha, Int.tmod_lt_of_pos a (by omega)⟩

theorem pick_ok (l : List Int) (hl : ∀ x ∈ l, 0 ≤ x ∧ x ≤ 255) (hn : l.length ≤ 2000) (k : Nat) (p n : Int) (hp : 0 ≤ p) (hp' : p ≤ 1000000) :
    ∃ v, spec_reader_pick.f (k + 1) l p n = some (v, p + 1) ∧ 0 ≤ v ∧ (1 ≤ n → v < n) := by
  have hw : wrap64 (p + 1) = p + 1 := IntWalk.wrap64_in _ (by omega)
  unfold spec_reader_pick.f
  rw [hw]
  by_cases h1 : n < 1
  · rw [if_pos h1]
    exact ⟨0, by simp [spec_reader_pick.j0], by omega, fun h => by omega⟩
  · rw [if_neg h1]
    by_cases h2 : l.length = 0
    · exact ⟨0, by simp [spec_reader_pick.j0, h2], by omega, fun h => by omega⟩
    · have hb : ((l.length : Int) == 0) = false := beq_eq_false_iff_ne.mpr (by omega)
      have hw1 : wrap64 (p + 1 - 1) = p := (IntWalk.wrap64_in (p + 1 - 1) (by omega)).trans (by omega)
      have hn0 : n ≠ 0 := by omega
      have hl0 : (l.length : Int) ≠ 0 := by omega
      simp only [spec_reader_pick.j0, hb, hw1, Bool.false_eq_true, if_false, hn0, hl0]
      by_cases h3 : p < (l.length : Int)
      · rw [if_pos h3, if_pos hp]
        have hr := rd_range l hl p
        rw [IntWalk.wrap64_in (rd l p) (by omega)]
        have ht := tmod_range (rd l p) n hr.1 (by omega)
        exact ⟨_, rfl, ht.1, fun _ => ht.2⟩
      · rw [if_neg h3]
        have hm1 := tmod_range p (l.length : Int) hp (by omega)
        rw [if_pos hm1.1, if_pos hm1.2]
        have hw7 : wrap64 (p * 7) = p * 7 := IntWalk.wrap64_in _ (by omega)
        have hw73 : wrap64 (p * 7 + 3) = p * 7 + 3 := IntWalk.wrap64_in _ (by omega)
        rw [hw7, hw73]
        have hm2 := tmod_range (p * 7 + 3) (l.length : Int) (by omega) (by omega)
        rw [if_pos hm2.1, if_pos hm2.2]
        have hr1 := rd_range l hl (Int.tmod p (l.length : Int))
        have hr2 := rd_range l hl (Int.tmod (p * 7 + 3) (l.length : Int))
        generalize rd l (Int.tmod p (l.length : Int)) = r1 at hr1 ⊢
        generalize rd l (Int.tmod (p * 7 + 3) (l.length : Int)) = r2 at hr2 ⊢
        have hq : 0 ≤ Int.tdiv p (l.length : Int) ∧ Int.tdiv p (l.length : Int) ≤ p := by
          rw [Int.tdiv_eq_ediv_of_nonneg hp]
          exact ⟨Int.ediv_nonneg hp (by omega), Int.ediv_le_self _ hp⟩
        generalize Int.tdiv p (l.length : Int) = q at hq ⊢
        simp (disch := omega) only [IntWalk.wrap64_in]
        have hX : 0 ≤ r1 * 131 + r2 * 1117 + p * 29 + q * 53 ∧ r1 * 131 + r2 * 1117 + p * 29 + q * 53 < 1073741824 := by omega
        generalize r1 * 131 + r2 * 1117 + p * 29 + q * 53 = X at hX ⊢
        have hd : 0 ≤ Int.tdiv X 64 ∧ Int.tdiv X 64 < 1073741824 := by
          rw [Int.tdiv_eq_ediv_of_nonneg hX.1]; omega
        rw [IntWalk.wrap64_in (Int.tdiv X 64) (by omega)]
        have hx := xor64_range X (Int.tdiv X 64) hX.1 hX.2 hd.1 hd.2
        have ht := tmod_range (Go.bits .xor .i64 X (Int.tdiv X 64)) n hx.1 (by omega)
        exact ⟨_, rfl, ht.1, fun _ => ht.2⟩

theorem reader_ok (l0 : List Int) (hw : ∀ x ∈ l0, (Lit.int .u8 x).wf = true) :
    ∃ l, spec_newReader.f l0 = some (l, 0) ∧ (∀ x ∈ l, 0 ≤ x ∧ x ≤ 255) ∧ l.length ≤ 2000 := by
  have hb : ∀ x ∈ l0, 0 ≤ x ∧ x ≤ 255 := by
    intro x hx
    have h := hw x hx
    simp [Lit.wf, IntKind.min, IntKind.max, IntKind.signed, IntKind.bits] at h
    omega
  unfold spec_newReader.f
  by_cases h : (l0.length : Int) > 2000
  · rw [if_pos h, if_pos (by omega)]
    exact ⟨_, rfl, fun x hx => hb x (List.mem_of_mem_take hx), by rw [List.length_take]; omega⟩
  · rw [if_neg h]
    exact ⟨_, rfl, hb, by omega⟩

theorem one_ok (l : List Int) (hl : ∀ x ∈ l, 0 ≤ x ∧ x ≤ 255) (hn : l.length ≤ 2000) (k : Nat) (p : Int) (xs : List Int) (hp : 0 ≤ p) (hp' : p ≤ 1000000) (hx : 1 ≤ xs.length) :
    ∃ v, spec_reader_one.f (k + 1) l p xs = some (v, p + 1) ∧ v ∈ xs := by
  obtain ⟨v, hv, h0, h1⟩ := pick_ok l hl hn k p (xs.length : Int) hp hp'
  have h2 := h1 (by omega)
  unfold spec_reader_one.f
  rw [hv]
  simp only [Option.bind_some]
  rw [if_pos h0, if_pos h2]
  refine ⟨_, rfl, ?_⟩
  unfold rd
  have h3 : v.toNat < xs.length := by omega
  rw [List.getD_eq_getElem?_getD, List.getElem?_eq_getElem h3]
  exact List.getElem_mem h3

theorem someLoads_l0 (l : List Int) (hb : ∀ x ∈ l, 0 ≤ x ∧ x ≤ 255) (hn : l.length ≤ 2000) : ∀ (d k n : Nat) (o : List Int) (p : Int), d = n - o.length → d + 3 ≤ k → n ≤ 16 → o.length ≤ 16 → 0 ≤ p → p ≤ 700000 - 4 * d → (∀ x ∈ o, -1 ≤ x ∧ x ≤ 31) →
    ∃ o' p', spec_someLoads.l0 k o (n : Int) l p = some (o', p') ∧ o'.length ≤ 33 ∧ (∀ x ∈ o', -1 ≤ x ∧ x ≤ 31) ∧ p ≤ p' ∧ p' ≤ p + 4 * d + 1 := by
  intro d
  induction d with
  | zero =>
    intro k n o p hd hk hn16 ho hp hp' hx
    obtain ⟨k, rfl⟩ : ∃ m, k = m + 1 + 1 := ⟨k - 2, by omega⟩
    obtain ⟨v, hv, h0, h1⟩ := pick_ok l hb hn k p 30 hp (by omega)
    simp only [spec_someLoads.l0]
    rw [if_neg (by omega), hv]
    simp only [Option.bind_some]
    have happ : ∀ y : List Int, (∀ x ∈ y, -1 ≤ x ∧ x ≤ 31) → ∀ x ∈ o ++ y, -1 ≤ x ∧ x ≤ 31 := fun y hy x hxx => by
      rcases List.mem_append.1 hxx with h | h
      · exact hx x h
      · exact hy x h
    by_cases e0 : v = 0
    · rw [if_pos e0, if_pos (by omega)]
      exact ⟨_, _, rfl, by simp; omega, happ _ (by simp), by omega, by omega⟩
    · rw [if_neg e0]
      by_cases e1 : v = 1
      · rw [if_pos e1, if_pos (by omega)]
        exact ⟨_, _, rfl, by simp; omega, happ _ (by simp), by omega, by omega⟩
      · rw [if_neg e1]
        by_cases e2 : v = 2
        · rw [if_pos e2, if_pos (by simp; omega)]
          exact ⟨_, _, rfl, by simp; omega, happ _ (by simp), by omega, by omega⟩
        · rw [if_neg e2]
          exact ⟨_, _, rfl, by omega, hx, by omega, by omega⟩
  | succ d ih =>
    intro k n o p hd hk hn16 ho hp hp' hx
    obtain ⟨k, rfl⟩ : ∃ m, k = m + 1 + 1 := ⟨k - 2, by omega⟩
    obtain ⟨a, ha, ha0, ha1⟩ := pick_ok l hb hn k p 31 hp (by omega)
    obtain ⟨b, hb1, hb0, hb2⟩ := pick_ok l hb hn k (p + 1) 6 (by omega) (by omega)
    obtain ⟨c, hc, hc0, hc1⟩ := pick_ok l hb hn k (p + 1 + 1) 12 (by omega) (by omega)
    obtain ⟨e, he, hmem⟩ := one_ok l hb hn k (p + 1 + 1 + 1) [a, b, 0, c] (by omega) (by omega) (by simp)
    have her : -1 ≤ e ∧ e ≤ 31 := by
      have h1 := ha1 (by omega)
      have h2 := hb2 (by omega)
      have h3 := hc1 (by omega)
      simp only [List.mem_cons, List.not_mem_nil, or_false] at hmem
      omega
    simp only [spec_someLoads.l0]
    rw [if_pos (by omega)]
    simp only [ha, hb1, hc, he, Option.bind_some]
    rw [if_pos (by omega)]
    obtain ⟨o', p', h1, h2, h3, h4, h5⟩ := ih (k + 1) n (o ++ [e]) (p + 1 + 1 + 1 + 1) (by rw [List.length_append, List.length_singleton]; omega) (by omega) hn16 (by rw [List.length_append, List.length_singleton]; omega) (by omega) (by omega) (fun x hxx => by
      rcases List.mem_append.1 hxx with h | h
      · exact hx x h
      · rw [List.mem_singleton.1 h]; exact her)
    exact ⟨o', p', h1, h2, h3, by omega, by omega⟩

theorem someLoads_ok (l : List Int) (hb : ∀ x ∈ l, 0 ≤ x ∧ x ≤ 255) (hn : l.length ≤ 2000) (k : Nat) (hk : 30 ≤ k) (p : Int) (hp : 0 ≤ p) (hp' : p ≤ 600000) :
    ∃ o' p', spec_someLoads.f k l p = some (o', p') ∧ o'.length ≤ 33 ∧ (∀ x ∈ o', -1 ≤ x ∧ x ≤ 31) ∧ p ≤ p' ∧ p' ≤ p + 100 := by
  obtain ⟨k, rfl⟩ : ∃ m, k = m + 1 := ⟨k - 1, by omega⟩
  obtain ⟨v, hv, hmem⟩ := one_ok l hb hn k p [5, 8, 4, 3, 12, 2, 1, 0, 16] hp (by omega) (by simp)
  have hvr : 0 ≤ v ∧ v ≤ 16 := by
    simp only [List.mem_cons, List.not_mem_nil, or_false] at hmem
    omega
  obtain ⟨m, rfl⟩ := Int.eq_ofNat_of_zero_le hvr.1
  unfold spec_someLoads.f
  simp only [hv, Option.bind_some]
  obtain ⟨o', p', h1, h2, h3, h4, h5⟩ := someLoads_l0 l hb hn m (k + 1) m [] (p + 1) (by simp) (by omega) (by omega) (by simp) (by omega) (by omega) (by simp)
  exact ⟨o', p', h1, h2, h3, by omega, by omega⟩

theorem drawDepth_ok (l0 : List Int) (hw : ∀ x ∈ l0, (Lit.int .u8 x).wf = true) (k : Nat) (hk : 30 ≤ k) : ∃ r l, spec_DrawDepthFor.f k l0 = some (r, l) ∧ l.length ≤ 33 ∧ (-1 ≤ r ∧ r ≤ 31) ∧ (∀ x ∈ l, -1 ≤ x ∧ x ≤ 31) := by
  obtain ⟨b, hr, hb, hn⟩ := reader_ok l0 hw
  obtain ⟨k, rfl⟩ : ∃ m, k = m + 1 := ⟨k - 1, by omega⟩
  obtain ⟨v, hv, hmem⟩ := one_ok b hb hn k 0 [3, 5, 1, 0, 10, 30, 31, -1] (by omega) (by omega) (by simp)
  obtain ⟨o, p, h1, h2, h3, _, _⟩ := someLoads_ok b hb hn (k + 1) (by omega) (0 + 1) (by omega) (by omega)
  refine ⟨v, o, ?_, h2, ?_, h3⟩
  · unfold spec_DrawDepthFor.f
    simp only [hr, Option.bind_some, hv, h1]
  · simp only [List.mem_cons, List.not_mem_nil, or_false] at hmem
    omega

theorem rd_nat (l : List Int) (i : Nat) (h : i < l.length) : rd l (i : Int) = l[i] := by
  unfold rd
  rw [Int.toNat_natCast, List.getD_eq_getElem?_getD, List.getElem?_eq_getElem h]
  rfl

theorem step_nat (i : Nat) (h : i < 4611686018427387904) : wrap64 ((i : Int) + 1) = ((i + 1 : Nat) : Int) := by
  rw [IntWalk.wrap64_in ((i : Int) + 1) (by omega)]
  rfl

theorem equalInts_l0 (a b : List Int) (hab : a.length = b.length) (hl : a.length ≤ 2000000) : ∀ (d k i : Nat), i + d = a.length → d < k → laws_equalInts.l0 k a b (i : Int) = some (decide (a.drop i = b.drop i)) := by
  intro d
  induction d with
  | zero =>
    intro k i hi hk
    obtain ⟨k, rfl⟩ : ∃ m, k = m + 1 := ⟨k - 1, by omega⟩
    simp only [laws_equalInts.l0]
    rw [if_neg (by omega), List.drop_eq_nil_of_le (by omega), List.drop_eq_nil_of_le (by omega)]
    rfl
  | succ d ih =>
    intro k i hi hk
    obtain ⟨k, rfl⟩ : ∃ m, k = m + 1 := ⟨k - 1, by omega⟩
    simp only [laws_equalInts.l0]
    rw [if_pos (by omega), if_pos (by omega), if_pos (by omega), step_nat i (by omega), rd_nat a i (by omega), rd_nat b i (by omega)]
    rw [List.drop_eq_getElem_cons (by omega : i < a.length), List.drop_eq_getElem_cons (by omega : i < b.length)]
    by_cases e : a[i]'(by omega) = b[i]'(by omega)
    · rw [if_pos e, ih k (i + 1) (by omega) (by omega), e]
      exact congrArg some (decide_eq_decide.mpr ⟨fun h => by rw [h], fun h => (List.cons.inj h).2⟩)
    · rw [if_neg e]
      exact congrArg some (decide_eq_false (fun h => e (List.cons.inj h).1)).symm

theorem equalInts_ok (a b : List Int) (hl : a.length ≤ 2000000) (k : Nat) (hk : a.length < k) : laws_equalInts.f k a b = some (decide (a = b)) := by
  unfold laws_equalInts.f
  by_cases h : a.length = b.length
  · rw [if_pos (by omega)]
    exact equalInts_l0 a b h hl a.length k 0 (by omega) hk
  · rw [if_neg (by omega), decide_eq_false (fun e => h (by rw [e]))]

theorem equalInts_self (a : List Int) (hl : a.length ≤ 2000000) (k : Nat) (hk : a.length < k) : laws_equalInts.f k a a = some true := by
  rw [equalInts_ok a a hl k hk, decide_eq_true rfl]

theorem total_l0 (l : List Int) (hl : l.length ≤ 2000) (hb : ∀ x ∈ l, -1000 ≤ x ∧ x ≤ 1000) : ∀ (d k i : Nat) (s : Int), i + d = l.length → d < k → -1000 * i ≤ s → s ≤ 1000 * i → laws_total.l0 k l s (i : Int) = some (s + (l.drop i).sum) := by
  intro d
  induction d with
  | zero =>
    intro k i s hi hk hs hs'
    obtain ⟨k, rfl⟩ : ∃ m, k = m + 1 := ⟨k - 1, by omega⟩
    simp only [laws_total.l0]
    rw [if_neg (by omega), List.drop_eq_nil_of_le (by omega)]
    simp
  | succ d ih =>
    intro k i s hi hk hs hs'
    obtain ⟨k, rfl⟩ : ∃ m, k = m + 1 := ⟨k - 1, by omega⟩
    simp only [laws_total.l0]
    have hx := hb (l[i]'(by omega)) (List.getElem_mem _)
    rw [if_pos (by omega), if_pos (by omega), step_nat i (by omega), rd_nat l i (by omega), List.drop_eq_getElem_cons (by omega : i < l.length), List.sum_cons]
    generalize l[i]'(by omega) = x at hx ⊢
    rw [IntWalk.wrap64_in (s + x) (by omega), ih k (i + 1) _ (by omega) (by omega) (by omega) (by omega), Int.add_assoc]

theorem total_ok (l : List Int) (hl : l.length ≤ 2000) (hb : ∀ x ∈ l, -1000 ≤ x ∧ x ≤ 1000) (k : Nat) (hk : l.length < k) : laws_total.f k l = some l.sum := by
  unfold laws_total.f
  have := total_l0 l hl hb l.length k 0 0 (by omega) hk (by omega) (by omega)
  simpa using this

/-- The greatest sum of first loads less what the rate brings between them; 0 for none. -/
def pn (rate : Int) : List Int → Int
  | [] => 0
  | x :: t => x + max 0 (pn rate t - rate)
/-- The greatest sum of loads behind each other less what the rate brings between them. -/
def dep (rate : Int) : List Int → Int
  | [] => 0
  | x :: t => max (pn rate (x :: t)) (dep rate t)
/-- The most that is in use at once, v of it at first. -/
def dp (rate : Int) : List Int → Int → Int → Int
  | [], _, acc => acc
  | x :: t, v, acc => dp rate t (max (x + v - rate) 0) (max acc (x + v))

theorem pn_nonneg (rate : Int) : ∀ l : List Int, (∀ x ∈ l, 0 ≤ x ∧ x ≤ 30) → 0 ≤ pn rate l
  | [], _ => by simp [pn]
  | x :: t, h => by
    have := h x (List.mem_cons_self ..)
    unfold pn
    omega

theorem pn_le (rate : Int) (hr : 0 ≤ rate) : ∀ l : List Int, (∀ x ∈ l, 0 ≤ x ∧ x ≤ 30) → pn rate l ≤ 30 * l.length
  | [], _ => by simp [pn]
  | x :: t, h => by
    have h1 := h x (List.mem_cons_self ..)
    have h2 := pn_le rate hr t (fun y hy => h y (List.mem_cons_of_mem _ hy))
    unfold pn
    rw [List.length_cons]
    omega

theorem dep_ge (rate : Int) : ∀ l : List Int, (∀ x ∈ l, 0 ≤ x ∧ x ≤ 30) → 0 ≤ dep rate l ∧ pn rate l ≤ dep rate l
  | [], _ => by simp [dep, pn]
  | x :: t, h => by
    have h1 := pn_nonneg rate (x :: t) h
    unfold dep
    omega

theorem dep_le (rate : Int) (hr : 0 ≤ rate) : ∀ l : List Int, (∀ x ∈ l, 0 ≤ x ∧ x ≤ 30) → dep rate l ≤ 30 * l.length
  | [], _ => by simp [dep]
  | x :: t, h => by
    have h1 := pn_le rate hr (x :: t) h
    have h2 := dep_le rate hr t (fun y hy => h y (List.mem_cons_of_mem _ hy))
    unfold dep
    rw [List.length_cons] at h1 ⊢
    omega

theorem dp_eq (rate : Int) (hr : 0 ≤ rate) : ∀ (l : List Int) (v acc : Int), (∀ x ∈ l, 0 ≤ x ∧ x ≤ 30) → 0 ≤ v → v ≤ acc → dp rate l v acc = max acc (max (dep rate l) (v + pn rate l))
  | [], v, acc, _, hv, ha => by simp only [dp, dep, pn]; omega
  | x :: t, v, acc, h, hv, ha => by
    have h1 := h x (List.mem_cons_self ..)
    have ht : ∀ y ∈ t, 0 ≤ y ∧ y ≤ 30 := fun y hy => h y (List.mem_cons_of_mem _ hy)
    have h2 := dep_ge rate t ht
    simp only [dp]
    rw [dp_eq rate hr t _ _ ht (by omega) (by omega)]
    simp only [dep, pn]
    omega

theorem dp_zero (rate : Int) (hr : 0 ≤ rate) (l : List Int) (h : ∀ x ∈ l, 0 ≤ x ∧ x ≤ 30) : dp rate l 0 0 = dep rate l := by
  have h2 := dep_ge rate l h
  rw [dp_eq rate hr l 0 0 h (by omega) (by omega)]
  omega

theorem mx_max (a b : Int) : mx a b = max a b := by unfold mx; omega

theorem depthOf_l1 (rate : Int) (hr : 0 ≤ rate ∧ rate ≤ 31) (l : List Int) (hl : l.length ≤ 16) (hb : ∀ x ∈ l, 0 ≤ x ∧ x ≤ 30) (i : Nat) (hi : i ≤ 16) : ∀ (d k j : Nat) (out s : Int), j + d = l.length → d < k → i ≤ j → s - rate * ((j : Int) - i) ≤ out → 0 ≤ s → s ≤ 30 * j → 0 ≤ out →
    laws_depthOf.l1 k rate l out (i : Int) s (j : Int) = laws_depthOf.l0 (k - d - 1) rate l (max out (s - rate * ((j : Int) - i) + pn rate (l.drop j))) ((i + 1 : Nat) : Int) := by
  intro d
  induction d with
  | zero =>
    intro k j out s hj hk hij hq hs hs' ho
    obtain ⟨k, rfl⟩ : ∃ m, k = m + 1 := ⟨k - 1, by omega⟩
    simp only [laws_depthOf.l1]
    rw [if_neg (by omega), step_nat i (by omega), List.drop_eq_nil_of_le (by omega)]
    simp only [pn]
    rw [show max out (s - rate * ((j : Int) - i) + 0) = out by omega]
    rfl
  | succ d ih =>
    intro k j out s hj hk hij hq hs hs' ho
    obtain ⟨k, rfl⟩ : ∃ m, k = m + 1 := ⟨k - 1, by omega⟩
    simp only [laws_depthOf.l1]
    have hx := hb (l[j]'(by omega)) (List.getElem_mem _)
    rw [if_pos (by omega), if_pos (by omega), step_nat j (by omega), rd_nat l j (by omega), List.drop_eq_getElem_cons (by omega : j < l.length)]
    generalize l[j]'(by omega) = x at hx ⊢
    have hmul0 : 0 ≤ rate * ((j : Int) - i) := Int.mul_nonneg hr.1 (by omega)
    have hmul : rate * ((j : Int) - i) ≤ 31 * 16 := Int.mul_le_mul hr.2 (by omega) (by omega) (by omega)
    have hnext : rate * (((j + 1 : Nat) : Int) - i) = rate * ((j : Int) - i) + rate := by
      rw [show (((j + 1 : Nat) : Int) - i) = ((j : Int) - i) + 1 by omega, Int.mul_add, Int.mul_one]
    rw [IntWalk.wrap64_in (s + x) (by omega), IntWalk.wrap64_in ((j : Int) - i) (by omega), IntWalk.wrap64_in (rate * ((j : Int) - i)) (by omega), IntWalk.wrap64_in (s + x - rate * ((j : Int) - i)) (by omega), mx_max]
    rw [ih k (j + 1) _ (s + x) (by omega) (by omega) (by omega) (by rw [hnext]; omega) (by omega) (by omega) (by omega), hnext]
    rw [show k + 1 - (d + 1) - 1 = k - d - 1 by omega]
    congr 1
    simp only [pn]
    omega

theorem depthOf_l0 (rate : Int) (hr : 0 ≤ rate ∧ rate ≤ 31) (l : List Int) (hl : l.length ≤ 16) (hb : ∀ x ∈ l, 0 ≤ x ∧ x ≤ 30) : ∀ (d k i : Nat) (out : Int), i + d = l.length → 20 * d < k → 0 ≤ out →
    laws_depthOf.l0 k rate l out (i : Int) = some (max out (dep rate (l.drop i))) := by
  intro d
  induction d with
  | zero =>
    intro k i out hi hk ho
    obtain ⟨k, rfl⟩ : ∃ m, k = m + 1 := ⟨k - 1, by omega⟩
    simp only [laws_depthOf.l0]
    rw [if_neg (by omega), List.drop_eq_nil_of_le (by omega)]
    simp only [dep]
    rw [show max out 0 = out by omega]
  | succ d ih =>
    intro k i out hi hk ho
    obtain ⟨k, rfl⟩ : ∃ m, k = m + 1 := ⟨k - 1, by omega⟩
    simp only [laws_depthOf.l0]
    rw [if_pos (by omega), depthOf_l1 rate hr l hl hb i (by omega) (d + 1) k i out 0 (by omega) (by omega) (by omega) (by rw [show (i : Int) - i = 0 by omega, Int.mul_zero]; omega) (by omega) (by omega) ho]
    rw [ih _ (i + 1) _ (by omega) (by omega) (by omega), show (i : Int) - i = 0 by omega, Int.mul_zero]
    rw [List.drop_eq_getElem_cons (by omega : i < l.length)]
    simp only [dep]
    congr 1
    omega

theorem depthOf_ok (rate : Int) (hr : 0 ≤ rate ∧ rate ≤ 31) (l : List Int) (hl : l.length ≤ 16) (hb : ∀ x ∈ l, 0 ≤ x ∧ x ≤ 30) (k : Nat) (hk : 400 ≤ k) : laws_depthOf.f k rate l = some (dep rate l) := by
  unfold laws_depthOf.f
  have h := depthOf_l0 rate hr l hl hb l.length k 0 0 (by omega) (by omega) (by omega)
  have h2 := dep_ge rate l hb
  rw [show max 0 (dep rate (l.drop 0)) = dep rate l by simp; omega] at h
  exact h

/-- Loads. -/
def okL (l : List Int) : Bool := l.all fun x => decide (0 ≤ x ∧ x ≤ 30)

theorem okL_iff (l : List Int) : okL l = true ↔ ∀ x ∈ l, 0 ≤ x ∧ x ≤ 30 := by simp [okL]

theorem inRange_val (x a b : Int) : spec_inRange.f x a b = some (decide (a ≤ x ∧ x ≤ b)) := by
  unfold spec_inRange.f
  by_cases h : a ≤ x
  · rw [if_pos h]; simp [h]
  · rw [if_neg h]; simp [h]

theorem validLoads_l0 (l : List Int) (hl : l.length ≤ 2000000) : ∀ (d k i : Nat), i + d = l.length → d < k → spec_validLoads.l0 k l (i : Int) = some (okL (l.drop i) && decide (l.length ≤ 16)) := by
  intro d
  induction d with
  | zero =>
    intro k i hi hk
    obtain ⟨k, rfl⟩ : ∃ m, k = m + 1 := ⟨k - 1, by omega⟩
    simp only [spec_validLoads.l0]
    rw [if_neg (by omega), List.drop_eq_nil_of_le (by omega)]
    have e : decide ((l.length : Int) ≤ 16) = decide (l.length ≤ 16) := decide_eq_decide.mpr (by omega)
    rw [e]
    simp [okL]
  | succ d ih =>
    intro k i hi hk
    obtain ⟨k, rfl⟩ : ∃ m, k = m + 1 := ⟨k - 1, by omega⟩
    simp only [spec_validLoads.l0]
    rw [if_pos (by omega), if_pos (by omega), step_nat i (by omega), rd_nat l i (by omega), inRange_val]
    rw [List.drop_eq_getElem_cons (by omega : i < l.length)]
    simp only [Option.bind_some]
    by_cases e : 0 ≤ l[i]'(by omega) ∧ l[i]'(by omega) ≤ 30
    · rw [if_pos (decide_eq_true e), ih k (i + 1) (by omega) (by omega)]
      have h : okL (l[i]'(by omega) :: l.drop (i + 1)) = okL (l.drop (i + 1)) := by
        unfold okL
        rw [List.all_cons, decide_eq_true e, Bool.true_and]
      rw [h]
    · rw [if_neg (by simpa using e)]
      have h : okL (l[i]'(by omega) :: l.drop (i + 1)) = false := by
        unfold okL
        rw [List.all_cons, decide_eq_false e, Bool.false_and]
      rw [h, Bool.false_and]

theorem validLoads_ok (l : List Int) (hl : l.length ≤ 2000000) (k : Nat) (hk : l.length < k) : spec_validLoads.f k l = some (okL l && decide (l.length ≤ 16)) := by
  unfold spec_validLoads.f
  exact validLoads_l0 l hl l.length k 0 (by omega) hk

theorem within_val (x a b : Int) : impl_within.f x a b = some (decide (a ≤ x ∧ x ≤ b)) := by
  unfold impl_within.f
  by_cases h : a ≤ x
  · rw [if_pos h]; simp [h]
  · rw [if_neg h]; simp [h]

theorem containsLoads_val (l : List Int) : hand_Contains_loadsOk.f l = some (!okL l) := by
  unfold hand_Contains_loadsOk.f okL impl_loadsOk_1.f
  congr 1
  induction l with
  | nil => rfl
  | cons x l ih =>
    rw [List.any_cons, List.all_cons, ih, within_val]
    simp only [Option.bind_some, Option.getD_some, Bool.not_and]

theorem loadsOk_val (l : List Int) : impl_loadsOk.f l = some (okL l && decide (l.length ≤ 16)) := by
  unfold impl_loadsOk.f
  rw [containsLoads_val]
  simp only [Option.bind_some, Bool.not_not]
  by_cases h : l.length ≤ 16
  · rw [if_pos (by omega)]; simp [h]
  · rw [if_neg (by omega)]; simp [h]

theorem mn_range (a b : Int) (ha : 0 ≤ a) (hb : 0 ≤ b) : 0 ≤ mn a b ∧ mn a b ≤ a ∧ mn a b ≤ b := by
  unfold mn
  split <;> omega

theorem mn_pos (a b : Int) (ha : 1 ≤ a) (hb : 1 ≤ b) : 1 ≤ mn a b := by
  unfold mn
  split <;> omega

/-- What leaves in each tick, and the most that waits; the first number bounds the ticks. -/
def sm (rate : Int) : Nat → List Int → Int → Int → List Int × Int
  | 0, _, _, m => ([], m)
  | f + 1, [], L, m => if L > 0 then (mn L rate :: (sm rate f [] (L - mn L rate) (mx m (L - mn L rate))).1, (sm rate f [] (L - mn L rate) (mx m (L - mn L rate))).2) else ([], m)
  | f + 1, x :: t, L, m => (mn (L + x) rate :: (sm rate f t (L + x - mn (L + x) rate) (mx m (L + x - mn (L + x) rate))).1, (sm rate f t (L + x - mn (L + x) rate) (mx m (L + x - mn (L + x) rate))).2)

theorem sm_length (rate : Int) : ∀ (f : Nat) (l : List Int) (L m : Int), (sm rate f l L m).1.length ≤ f
  | 0, _, _, _ => by simp [sm]
  | f + 1, [], L, m => by
    unfold sm
    split
    · have := sm_length rate f [] (L - mn L rate) (mx m (L - mn L rate))
      simp only [List.length_cons]
      omega
    · simp
  | f + 1, x :: t, L, m => by
    unfold sm
    have := sm_length rate f t (L + x - mn (L + x) rate) (mx m (L + x - mn (L + x) rate))
    simp only [List.length_cons]
    omega

/-- What both return. -/
def smooth (rate : Int) (l : List Int) : List Int × Int := if (1 ≤ rate ∧ rate ≤ 30) ∧ okL l = true ∧ l.length ≤ 16 then sm rate 500 l 0 0 else ([], -1)

theorem smooth_length (rate : Int) (l : List Int) : (smooth rate l).1.length ≤ 500 := by
  unfold smooth
  split
  · exact sm_length rate 500 l 0 0
  · simp

theorem implSm_l0 (rate : Int) (hr : 1 ≤ rate ∧ rate ≤ 30) (l : List Int) (hl : l.length ≤ 16) (hb : ∀ x ∈ l, 0 ≤ x ∧ x ≤ 30) : ∀ (f k i : Nat) (o : List Int) (L m : Int), 31 * (l.length - i) + L.toNat ≤ f → 2 * f + 3 ≤ k → i + f ≤ 3000 → o.length + f ≤ 5000 → 0 ≤ L →
    impl_SmoothOf.l0 k rate l o L m (i : Int) = some (o ++ (sm rate f (l.drop i) L m).1, (sm rate f (l.drop i) L m).2) := by
  intro f
  induction f with
  | zero =>
    intro k i o L m hm hk hi ho hL
    obtain ⟨k, rfl⟩ : ∃ m, k = m + 2 := ⟨k - 2, by omega⟩
    simp only [impl_SmoothOf.l0]
    rw [if_neg (by omega), decide_eq_false (by omega)]
    simp [impl_SmoothOf.j2, sm]
  | succ f ih =>
    intro k i o L m hm hk hi ho hL
    obtain ⟨k, rfl⟩ : ∃ m, k = m + 2 := ⟨k - 2, by omega⟩
    simp only [impl_SmoothOf.l0]
    by_cases h1 : i < l.length
    · rw [if_pos (by omega)]
      simp only [impl_SmoothOf.j2, if_true]
      rw [if_pos (by omega), if_pos (by omega), if_pos (by omega), step_nat i (by omega), rd_nat l i h1, List.drop_eq_getElem_cons h1]
      have hx := hb (l[i]'h1) (List.getElem_mem h1)
      generalize l[i]'h1 = x at hx ⊢
      have hn := mn_range (L + x) rate (by omega) (by omega)
      rw [IntWalk.wrap64_in (L + x) (by omega), IntWalk.wrap64_in (L + x - mn (L + x) rate) (by omega)]
      rw [ih k (i + 1) _ _ _ (by omega) (by omega) (by omega) (by rw [List.length_append, List.length_singleton]; omega) (by omega)]
      simp only [sm, List.append_assoc, List.singleton_append]
    · rw [if_neg (by omega), List.drop_eq_nil_of_le (by omega)]
      by_cases h2 : L > 0
      · rw [decide_eq_true h2]
        simp only [impl_SmoothOf.j2, if_true]
        rw [if_neg (by omega), if_pos (by omega), step_nat i (by omega)]
        have hn := mn_range L rate (by omega) (by omega)
        have hn1 := mn_pos L rate (by omega) (by omega)
        rw [IntWalk.wrap64_in (L - mn L rate) (by omega)]
        rw [ih k (i + 1) _ _ _ (by omega) (by omega) (by omega) (by rw [List.length_append, List.length_singleton]; omega) (by omega)]
        rw [List.drop_eq_nil_of_le (by omega : l.length ≤ i + 1)]
        simp only [sm, if_pos h2, List.append_assoc, List.singleton_append]
      · rw [decide_eq_false h2]
        simp [impl_SmoothOf.j2, sm, h2]

theorem implSm_ok (rate : Int) (l : List Int) (hl : l.length ≤ 2000000) (k : Nat) (hk : l.length + 1100 ≤ k) : impl_SmoothOf.f k rate l = some (smooth rate l) := by
  unfold impl_SmoothOf.f smooth
  obtain ⟨k, rfl⟩ : ∃ m, k = m + 1 := ⟨k - 1, by omega⟩
  rw [within_val, loadsOk_val l]
  simp only [Option.bind_some, decide_eq_true_eq]
  by_cases h1 : 1 ≤ rate ∧ rate ≤ 30
  · rw [if_pos h1]
    by_cases h2 : okL l = true ∧ l.length ≤ 16
    · rw [if_pos (show (1 ≤ rate ∧ rate ≤ 30) ∧ okL l = true ∧ l.length ≤ 16 from ⟨h1, h2⟩), h2.1, decide_eq_true h2.2]
      simp only [impl_SmoothOf.j0, Bool.and_self, Bool.not_true, Bool.false_eq_true, if_false]
      have := implSm_l0 rate h1 l h2.2 ((okL_iff l).1 h2.1) 500 k 0 [] 0 0 (by simp; omega) (by omega) (by omega) (by simp) (by omega)
      simpa using this
    · rw [if_neg (fun h => h2 h.2)]
      have h3 : (okL l && decide (l.length ≤ 16)) = false := by
        cases h4 : okL l
        · rfl
        · rw [decide_eq_false (fun h5 => h2 ⟨h4, h5⟩)]; rfl
      rw [h3]
      simp [impl_SmoothOf.j0]
  · rw [if_neg h1, if_neg (fun h => h1 h.1)]
    simp [impl_SmoothOf.j0]

theorem specSm_l0 (rate : Int) (hr : 1 ≤ rate ∧ rate ≤ 30) (l : List Int) (hl : l.length ≤ 16) (hb : ∀ x ∈ l, 0 ≤ x ∧ x ≤ 30) : ∀ (f k i : Nat) (o : List Int) (L m : Int), 31 * (l.length - i) + L.toNat ≤ f → 2 * f + 3 ≤ k → i + f ≤ 3000 → o.length + f ≤ 5000 → 0 ≤ L →
    spec_SmoothOf.l0 k rate l o L m (i : Int) = some (o ++ (sm rate f (l.drop i) L m).1, (sm rate f (l.drop i) L m).2) := by
  intro f
  induction f with
  | zero =>
    intro k i o L m hm hk hi ho hL
    obtain ⟨k, rfl⟩ : ∃ m, k = m + 2 := ⟨k - 2, by omega⟩
    simp only [spec_SmoothOf.l0]
    rw [if_neg (by omega), decide_eq_false (by omega)]
    simp [spec_SmoothOf.j2, sm]
  | succ f ih =>
    intro k i o L m hm hk hi ho hL
    obtain ⟨k, rfl⟩ : ∃ m, k = m + 2 := ⟨k - 2, by omega⟩
    simp only [spec_SmoothOf.l0]
    by_cases h1 : i < l.length
    · rw [if_pos (by omega)]
      simp only [spec_SmoothOf.j2, if_true]
      rw [if_pos (by omega), if_pos (by omega), if_pos (by omega), step_nat i (by omega), rd_nat l i h1, List.drop_eq_getElem_cons h1]
      have hx := hb (l[i]'h1) (List.getElem_mem h1)
      generalize l[i]'h1 = x at hx ⊢
      have hn := mn_range (L + x) rate (by omega) (by omega)
      rw [IntWalk.wrap64_in (L + x) (by omega), IntWalk.wrap64_in (L + x - mn (L + x) rate) (by omega)]
      rw [ih k (i + 1) _ _ _ (by omega) (by omega) (by omega) (by rw [List.length_append, List.length_singleton]; omega) (by omega)]
      simp only [sm, List.append_assoc, List.singleton_append]
    · rw [if_neg (by omega), List.drop_eq_nil_of_le (by omega)]
      by_cases h2 : L > 0
      · rw [decide_eq_true h2]
        simp only [spec_SmoothOf.j2, if_true]
        rw [if_neg (by omega), if_pos (by omega), step_nat i (by omega)]
        have hn := mn_range L rate (by omega) (by omega)
        have hn1 := mn_pos L rate (by omega) (by omega)
        rw [IntWalk.wrap64_in (L - mn L rate) (by omega)]
        rw [ih k (i + 1) _ _ _ (by omega) (by omega) (by omega) (by rw [List.length_append, List.length_singleton]; omega) (by omega)]
        rw [List.drop_eq_nil_of_le (by omega : l.length ≤ i + 1)]
        simp only [sm, if_pos h2, List.append_assoc, List.singleton_append]
      · rw [decide_eq_false h2]
        simp [spec_SmoothOf.j2, sm, h2]

theorem specSm_ok (rate : Int) (l : List Int) (hl : l.length ≤ 2000000) (k : Nat) (hk : l.length + 1100 ≤ k) : spec_SmoothOf.f k rate l = some (smooth rate l) := by
  unfold spec_SmoothOf.f smooth
  obtain ⟨k, rfl⟩ : ∃ m, k = m + 1 := ⟨k - 1, by omega⟩
  rw [inRange_val, validLoads_ok l hl (k + 1) (by omega)]
  simp only [Option.bind_some, decide_eq_true_eq]
  by_cases h1 : 1 ≤ rate ∧ rate ≤ 30
  · rw [if_pos h1]
    by_cases h2 : okL l = true ∧ l.length ≤ 16
    · rw [if_pos (show (1 ≤ rate ∧ rate ≤ 30) ∧ okL l = true ∧ l.length ≤ 16 from ⟨h1, h2⟩), h2.1, decide_eq_true h2.2]
      simp only [spec_SmoothOf.j0, Bool.and_self, Bool.not_true, Bool.false_eq_true, if_false]
      have := specSm_l0 rate h1 l h2.2 ((okL_iff l).1 h2.1) 500 k 0 [] 0 0 (by simp; omega) (by omega) (by omega) (by simp) (by omega)
      simpa using this
    · rw [if_neg (fun h => h2 h.2)]
      have h3 : (okL l && decide (l.length ≤ 16)) = false := by
        cases h4 : okL l
        · rfl
        · rw [decide_eq_false (fun h5 => h2 ⟨h4, h5⟩)]; rfl
      rw [h3]
      simp [spec_SmoothOf.j0]
  · rw [if_neg h1, if_neg (fun h => h1 h.1)]
    simp [spec_SmoothOf.j0]


theorem sm_elem (rate : Int) (hr : 1 ≤ rate ∧ rate ≤ 30) : ∀ (f : Nat) (l : List Int) (L m : Int), 0 ≤ L → (∀ x ∈ l, 0 ≤ x ∧ x ≤ 30) → ∀ y ∈ (sm rate f l L m).1, 0 ≤ y ∧ y ≤ rate
  | 0, _, _, _, _, _ => by simp [sm]
  | f + 1, [], L, m, hL, hb => by
    unfold sm
    by_cases h : L > 0
    · have hn := mn_range L rate (by omega) (by omega)
      have ih := sm_elem rate hr f [] (L - mn L rate) (mx m (L - mn L rate)) (by omega) (by simp)
      rw [if_pos h]
      intro y hy
      rcases List.mem_cons.1 hy with h1 | h1
      · omega
      · exact ih y h1
    · rw [if_neg h]; simp
  | f + 1, x :: t, L, m, hL, hb => by
    unfold sm
    have hx := hb x (List.mem_cons_self ..)
    have hn := mn_range (L + x) rate (by omega) (by omega)
    have ih := sm_elem rate hr f t (L + x - mn (L + x) rate) (mx m (L + x - mn (L + x) rate)) (by omega) (fun z hz => hb z (List.mem_cons_of_mem _ hz))
    intro y hy
    rcases List.mem_cons.1 hy with h1 | h1
    · omega
    · exact ih y h1

theorem sm_sum (rate : Int) (hr : 1 ≤ rate ∧ rate ≤ 30) : ∀ (f : Nat) (l : List Int) (L m : Int), 0 ≤ L → (∀ x ∈ l, 0 ≤ x ∧ x ≤ 30) → 31 * l.length + L.toNat ≤ f → (sm rate f l L m).1.sum = L + l.sum ∧ l.length ≤ (sm rate f l L m).1.length
  | 0, l, L, m, hL, hb, hf => by
    have : l = [] := List.length_eq_zero_iff.1 (by omega)
    subst this
    simp [sm]
    simp at hf
    omega
  | f + 1, [], L, m, hL, hb, hf => by
    unfold sm
    by_cases h : L > 0
    · have hn := mn_range L rate (by omega) (by omega)
      have hn1 := mn_pos L rate (by omega) (by omega)
      simp only [List.length_nil] at hf
      have ih := sm_sum rate hr f [] (L - mn L rate) (mx m (L - mn L rate)) (by omega) (by simp) (by simp only [List.length_nil]; omega)
      rw [if_pos h]
      simp only [List.sum_cons, ih.1, List.sum_nil, List.length_nil]
      omega
    · rw [if_neg h]
      simp
      omega
  | f + 1, x :: t, L, m, hL, hb, hf => by
    unfold sm
    have hx := hb x (List.mem_cons_self ..)
    have hn := mn_range (L + x) rate (by omega) (by omega)
    simp only [List.length_cons] at hf
    have ih := sm_sum rate hr f t (L + x - mn (L + x) rate) (mx m (L + x - mn (L + x) rate)) (by omega) (fun z hz => hb z (List.mem_cons_of_mem _ hz)) (by omega)
    simp only [List.sum_cons, List.length_cons, ih.1]
    omega

theorem sm_drain (rate : Int) (hr : 1 ≤ rate ∧ rate ≤ 30) : ∀ (f : Nat) (L m : Int), 0 ≤ L → L ≤ m → (sm rate f [] L m).2 = m
  | 0, _, _, _, _ => by simp [sm]
  | f + 1, L, m, hL, hm => by
    unfold sm
    by_cases h : L > 0
    · have hn := mn_range L rate (by omega) (by omega)
      rw [if_pos h]
      have e : mx m (L - mn L rate) = m := by rw [mx_max]; omega
      simp only [e]
      exact sm_drain rate hr f _ m (by omega) (by omega)
    · rw [if_neg h]

theorem sm_most (rate : Int) (hr : 1 ≤ rate ∧ rate ≤ 30) : ∀ (f : Nat) (l : List Int) (L m acc : Int), 0 ≤ L → L ≤ m → m = max (acc - rate) 0 → (∀ x ∈ l, 0 ≤ x ∧ x ≤ 30) → l.length ≤ f → (sm rate f l L m).2 = max (dp rate l L acc - rate) 0
  | f, [], L, m, acc, hL, hm, ha, _, _ => by
    rw [sm_drain rate hr f L m hL hm]
    simp only [dp]
    exact ha
  | 0, x :: t, L, m, acc, _, _, _, _, hf => by simp at hf
  | f + 1, x :: t, L, m, acc, hL, hm, ha, hb, hf => by
    have hx := hb x (List.mem_cons_self ..)
    unfold sm
    have hn : L + x - mn (L + x) rate = max (x + L - rate) 0 := by
      unfold mn
      split <;> omega
    simp only [hn, dp, mx_max]
    simp only [List.length_cons] at hf
    exact sm_most rate hr f t _ _ _ (by omega) (by omega) (by omega) (fun z hz => hb z (List.mem_cons_of_mem _ hz)) (by omega)

theorem law_l0 (rate : Int) (hr : 1 ≤ rate ∧ rate ≤ 30) (l : List Int) (hl : l.length ≤ 16) (hb : ∀ x ∈ l, 0 ≤ x ∧ x ≤ 30) (out : List Int) (most : Int) (hlen : out.length ≤ 500) (he : ∀ y ∈ out, 0 ≤ y ∧ y ≤ rate) (hs : out.sum = l.sum) (hge : l.length ≤ out.length) (hm : most = max (dep rate l - rate) 0) :
    ∀ (d k i : Nat), i + d = out.length → d + 1000 ≤ k → laws_FnSmoothOf.l0 k rate l out most (i : Int) = some true := by
  intro d
  induction d with
  | zero =>
    intro k i hi hk
    obtain ⟨k, rfl⟩ : ∃ m, k = m + 1 := ⟨k - 1, by omega⟩
    simp only [laws_FnSmoothOf.l0]
    rw [if_neg (by omega), total_ok out (by omega) (fun x hx => by have := he x hx; omega) k (by omega), total_ok l (by omega) (fun x hx => by have := hb x hx; omega) k (by omega), depthOf_ok rate (by omega) l hl hb k (by omega)]
    simp only [Option.bind_some]
    have hd := dep_le rate (by omega) l hb
    have hd0 := dep_ge rate l hb
    rw [if_pos hs, if_pos (by omega), IntWalk.wrap64_in (dep rate l - rate) (by omega), mx_max, hm]
    simp
  | succ d ih =>
    intro k i hi hk
    obtain ⟨k, rfl⟩ : ∃ m, k = m + 1 := ⟨k - 1, by omega⟩
    simp only [laws_FnSmoothOf.l0]
    have hx := he (out[i]'(by omega)) (List.getElem_mem _)
    rw [if_pos (by omega), if_pos (by omega), step_nat i (by omega), rd_nat out i (by omega), if_neg (by omega), if_neg (by omega)]
    exact ih k (i + 1) (by omega) (by omega)

theorem FnSmoothOf : laws_FnSmoothOf.Pure := by
  intro l0 _ _ hw
  by_cases hc : (l0.length : Int) > 1048576
  · exact ⟨0, by unfold laws_FnSmoothOf.f; rw [if_pos hc]⟩
  · refine ⟨3000, ?_⟩
    obtain ⟨rate, l, hd, hlen, _, _⟩ := drawDepth_ok l0 hw 3000 (by omega)
    have hsl := smooth_length rate l
    unfold laws_FnSmoothOf.f spec_DrawSmoothOf.f
    rw [if_neg hc, hd]
    simp only [Option.bind_some, implSm_ok rate l (by omega) 3000 (by omega), specSm_ok rate l (by omega) 3000 (by omega), equalInts_self (smooth rate l).1 (by omega) 3000 (by omega), if_true]
    by_cases h : (1 ≤ rate ∧ rate ≤ 30) ∧ okL l = true ∧ l.length ≤ 16
    · have hb := (okL_iff l).1 h.2.1
      have hv : smooth rate l = sm rate 500 l 0 0 := by unfold smooth; rw [if_pos h]
      have hmost := sm_most rate h.1 500 l 0 0 0 (by omega) (by omega) (by omega) hb (by omega)
      rw [dp_zero rate (by omega) l hb, ← hv] at hmost
      have hsum := sm_sum rate h.1 500 l 0 0 (by omega) hb (by simp; omega)
      rw [← hv] at hsum
      have hel := sm_elem rate h.1 500 l 0 0 (by omega) hb
      rw [← hv] at hel
      rw [decide_eq_false (by omega)]
      rw [show (3000 : Nat) = 2999 + 1 from rfl, laws_FnSmoothOf.j0]
      simp only [Bool.false_eq_true, if_false]
      exact law_l0 rate h.1 l h.2.2 hb _ _ hsl hel (by omega) hsum.2 hmost (smooth rate l).1.length 2999 0 (by omega) (by omega)
    · have hv : smooth rate l = ([], -1) := by unfold smooth; rw [if_neg h]
      rw [hv]
      rw [show (3000 : Nat) = 2999 + 1 from rfl, laws_FnSmoothOf.j0]
      simp only [show decide ((-1 : Int) < 0) = true from rfl, if_true, equalInts_self [] (by simp) 2999 (by simp), Option.bind_some, beq_self_eq_true]

end Go.Proofs.Ytdppkdcfocaemaa.Pure
