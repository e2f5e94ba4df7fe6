/- The program's TurnsOf returns what the reference's returns, in memory of its own, and leaves its arguments as they were: FnExactTurnsOf returns true for every int and list of lists of ints. Conditions: none. -/
import Derived.Test.YtdppkdcfocaemaaRows
import Derived.Test.YtdppkdcfocaemaaHFnExactTurnsOfx5
import Derived.Test.YtdppkdcfocaemaaPureFnExactTurnsOf
import Derived.WalkKit
import Derived.ProofKit
import Derived.OpenShut
import Derived.ShutString
import Derived.ChangeOld
import Derived.Below
import Derived.SizedLaws
import Derived.Lib.SmallJoins
import Derived.Deep.Slices
import Derived.Deep.Fields
import Derived.ChangeSame
namespace Go.Proofs.Ytdppkdcfocaemaa.fnExactTurnsOf
open Go.ChangeShapes Go.WideShapes Go.RowKit Go.Joins Go.Deep Go.Proofs.YtdppkdcfocaemaaW.PrintWords Go.Proofs.YtdppkdcfocaemaaW.PrintLast
open Go.ChangeMaps (open_string shut_string)
set_option linter.unusedVariables false
theorem collect {α : Type} (Q : Nat → α → Prop) : ∀ (m : Nat), (∀ i, i < m → ∃ x, Q i x) → ∃ l : List α, l.length = m ∧ ∀ i p, l[i]? = some p → Q i p
  | 0, _ => ⟨[], rfl, fun i p h => by simp at h⟩
  | m + 1, h => by
    obtain ⟨l, hl, hq⟩ := collect Q m (fun i hi => h i (by omega))
    obtain ⟨x, hx⟩ := h m (by omega)
    refine ⟨l ++ [x], by rw [List.length_append, hl]; rfl, fun i p hp => ?_⟩
    by_cases hi : i < l.length
    · rw [List.getElem?_append_left hi] at hp
      exact hq i p hp
    · rw [List.getElem?_append_right (by omega)] at hp
      have e : i - l.length = 0 := Decidable.byContradiction (fun hne => by rw [List.getElem?_eq_none (by simp; omega)] at hp; cases hp)
      rw [e] at hp
      have e2 : i = m := by omega
      have e3 : x = p := by simpa using hp
      rw [e2, ← e3]; exact hx
theorem own : ownKnob Try.prog.godebug = none := by kernel_rfl
theorem laidOut : laidOutB Try.prog = true := by kernel_rfl
set_option maxRecDepth 100000 in
theorem lifted (os : Os) (started : os.Started) (H : Type) (enc : TypeId × Value → H) :
    ReturnsInHanded {} Try.checked os 3 .any (Rows.fnExactTurnsOfSpec.pre6 enc Try.prog Try.f3 Rows.fnExactTurnsOfRow.domain false) (Rows.fnExactTurnsOfSpec.post enc Try.prog Try.f3 false true false false) := by
  refine returnsInHanded_of_change_sized (C := Try.checked) own started (by kernel_rfl) Try.func3
    (ChangeSpec.witness6 (enc := enc) (C := Try.checked) false ⟨#[], #[.int .i64 0, .slice none 0 0], []⟩ 8 (by kernel_rfl) (by kernel_rfl) (by kernel_rfl) (by kernel_rfl)) ?_
  intro W base args ds gs before hval0 hW hcnd hsz0 _
  have hval : ∀ (j : Nat) t v, Try.f3.params[j]? = some t → args[j]? = some v → Value.okWide Try.prog W .any base t v := hval0
  have hW' := hW
  obtain ⟨p, q, hA0, hV, rfl, hfz, hnd⟩ := hW
  have hA : DataW.TrodAll enc Try.prog W 0 (fun _ => true) true Try.f3.params.toList args.toList ds p := hA0
  rw [Try.params3] at hA hval
  obtain ⟨v0, vs0, d0, ds0, p0, q0, hargs, rfl, rfl, h0, r0⟩ := trodAll_cons hA
  obtain ⟨v1, vs1, d1, ds1, p1, q1, rfl, rfl, rfl, h1, r1⟩ := trodAll_cons r0
  obtain ⟨rfl, rfl, rfl⟩ := trodAll_nil r1
  obtain rfl : args = #[v0, v1] := by cases args; simp_all
  obtain ⟨rfl, rfl⟩ := trodVars_none hV
  obtain ⟨a0, rfl, rfl, rfl, w0⟩ := open_int Try.underlying3 (hval 0 3 v0 rfl rfl) h0
  obtain ⟨A1, len1, cap1, rfl⟩ := okWide_slice Try.underlying22 (hval 1 22 v1 rfl rfl)
  have k1 := h1
  have lt1 : ∀ x ∈ p1, x.block < W.heap.size := by obtain ⟨m, hm⟩ := k1; exact DataW.trod_lt m _ _ _ hm
  obtain ⟨l, rfl, hr, hc, hm, hM⟩ : ∃ l : List (List Int), len1 = l.length ∧ Kd.C (Kd.slice 3 (Kd.int .i64)) W A1 l.length l ∧ l.length ≤ cap1 ∧ l.length ≤ maxLen ∧ ∀ f ∈ l, f.length ≤ maxLen := by
    obtain ⟨fuel, hf⟩ := h1
    rcases open_slice1 Try.underlying22 (by kernel_rfl) hf with ⟨hcs, _⟩ | ⟨a, len, cap, m, n, V, D, Pl, hcs, _, hl, hm, hmm, _, hi⟩
    · simp [Value.cells] at hcs
      obtain ⟨rfl, rfl, rfl⟩ := hcs
      exact ⟨[], rfl, ⟨rfl, by simp, fun h => absurd h (Nat.lt_irrefl _)⟩, by simp, by simp, by simp⟩
    · simp [Value.cells] at hcs
      obtain ⟨rfl, rfl, rfl⟩ := hcs
      have hlm : len1 ≤ m := by rw [hmm]; split <;> omega
      obtain ⟨l, hlen, hq⟩ := collect (fun i (x : List Int) => x.length ≤ maxLen ∧ ∃ A c, W.cell? (a.add i) = some (.slice A x.length c) ∧ x.length ≤ c ∧ Kd.C (Kd.int .i64) W A x.length x) len1 (fun i hi' => by
        obtain ⟨hcell, ht⟩ := hi i (by omega)
        rcases open_ints Try.underlying24 Try.underlying3 (by kernel_rfl) ht with ⟨hcs, _⟩ | ⟨x, ln, c, zs, hcs, _, hl2, hm2, hz, _, hce, hwz⟩
        · rw [(List.cons.inj hcs).1] at hcell
          exact ⟨[], by simp, none, 0, hcell, by simp, ⟨rfl, by simp, fun h => absurd h (Nat.lt_irrefl _)⟩⟩
        · rw [(List.cons.inj hcs).1] at hcell
          obtain ⟨l, e, hr, hm, hw, hc⟩ := ReadsInt.ofRowC (.inr ⟨x, rfl, hl2, hm2, by simpa using hz, hce, hwz⟩)
          subst e
          exact ⟨l, hm, _, _, hcell, hc, Kd.C_of_reads (d := (0 : Int)) (h1 := fun _ => rfl) hr⟩)
      subst hlen
      have hb : maxLen ≤ 9223372036854775807 := by decide
      refine ⟨l, rfl, ⟨rfl, by omega, fun _ => ⟨a, rfl, fun j p hp => ?_⟩⟩, hl, by omega, fun f hf => ?_⟩
      · obtain ⟨_, A, c, h2, h3, h4⟩ := hq j p hp
        refine ⟨[.slice A p.length c], rfl, ⟨A, c, rfl, h3, h4⟩, fun i u hu => ?_⟩
        match i, hu with
        | 0, hu => obtain rfl := Option.some.inj hu; rw [show j * (Kd.slice 3 (Kd.int .i64)).sz + 0 = j from Nat.mul_one j]; exact h2
        | i + 1, hu => exact absurd hu (by simp)
      · obtain ⟨j, hj, rfl⟩ := List.getElem_of_mem hf
        exact (hq j _ (List.getElem?_eq_getElem hj)).1
  clear hA0 hval0 hsz0
  refine (Pure.run a0 _ _ l W hr hc hm hM).mono fun e W' ⟨he, bel⟩ => ?_
  subst he
  exact ⟨_, rfl, _, _, _, [], _, [], hW', trodAll_mk1 (shut_bool Try.underlying4 _), trodAll_cons_mk (shut_int Try.underlying3 w0) (trodAll_cons_mk (Below.trod laidOut (by kernel_rfl) (of_decide_eq_true (by kernel_rfl)) k1 bel lt1) trodAll_mk0), rfl, bel.frame _, fun h => by cases h⟩
theorem over : Rows.fnExactTurnsOfRow.holds Try.pinned (OpenSpec.ofChange Rows.fnExactTurnsOfSpec) :=
  OpenClaim.holds_of_wide 3 Try.f3 rfl rfl rfl rfl rfl rfl rfl ⟨rfl, rfl, rfl, rfl, rfl⟩ rfl rfl rfl rfl rfl (by kernel_rfl) Try.func3 (by kernel_rfl)
    (of_decide_eq_true (by kernel_rfl)) (by unfold Func.isWrapper; first | (rw [if_pos (by decide +kernel)]; kernel_rfl) | (rw [if_neg (by decide +kernel)]; exact ⟨rfl, rfl⟩))
    (fun os started H enc _ => lifted os started H enc)
theorem proved : Rows.FnExactTurnsOfSaid := over
#print axioms proved
end Go.Proofs.Ytdppkdcfocaemaa.fnExactTurnsOf
namespace Go.Proofs.Ytdppkdcfocaemaa
/-- The row, under a short name, for the claim. -/
theorem fnExactTurnsOf_holds : Rows.FnExactTurnsOfSaid := fnExactTurnsOf.proved
end Go.Proofs.Ytdppkdcfocaemaa
