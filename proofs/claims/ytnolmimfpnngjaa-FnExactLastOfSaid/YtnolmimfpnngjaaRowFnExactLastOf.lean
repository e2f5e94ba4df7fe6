/- The program's LastOf returns what the reference's returns, in memory of its own, and leaves its arguments as they were: FnExactLastOf returns true for every list of fields and every tag. Conditions: none. -/
import Derived.Test.YtnolmimfpnngjaaRows
import Derived.Test.YtnolmimfpnngjaaHFnExactLastOfx3
import Derived.Test.YtnolmimfpnngjaaPureFnExactLastOf
import Derived.WalkKit
import Derived.ProofKit
import Derived.OpenShut
import Derived.ShutString
import Derived.ChangeOld
import Derived.Below
import Derived.SizedLaws
import Derived.Lib.SmallJoins
import Derived.Deep.Slices
import Derived.Deep.Fields
import Derived.ChangeSame
namespace Go.Proofs.Ytnolmimfpnngjaa.fnExactLastOf
open Go.ChangeShapes Go.WideShapes Go.RowKit Go.Joins Go.Deep Go.Proofs.YtnolmimfpnngjaaW.PrintWords Go.Proofs.YtnolmimfpnngjaaW.PrintLast
open Go.ChangeMaps (open_string shut_string)
set_option linter.unusedVariables false
section
variable {H : Type} {enc : TypeId × Value → H} {P : Program} {w : World} {base : Nat} {spare : Nat → Bool} {held : Bool}
theorem open_slice_fields {t e : TypeId} {fs : Array Field} {fuel : Nat} {cs : List Value} {x : DataW H × List MemPlace} (ht : P.underlying t = some (.slice e)) (he : P.underlying e = some (.struct fs))
    (hone : oneCellFields P fs = true) (hC : P.cellsOf e = fs.size) (h : DataW.trod enc P w base spare held fuel t cs = some x) :
    (cs = [.slice none 0 0] ∧ x = (.nil, [])) ∨
    ∃ (a : Addr) (len cap m : Nat) (D : Nat → DataW H) (Pl : Nat → List MemPlace), cs = [.slice (some a) len cap] ∧ base ≤ a.block ∧ len ≤ cap ∧ cap ≤ maxLen ∧ m = (if spare a.block then cap else len) ∧
      x = (.slice ((List.range len).map D) ((List.range (m - len)).map fun j => D (len + j)), MemPlace.row a (m * fs.size) ++ (List.range m).flatMap Pl) ∧
      ∀ i, i < m → ∃ (ys : List (DataW H × List MemPlace)) (n : Nat), D i = .agg (ys.map (·.1)) ∧ Pl i = ys.flatMap (·.2) ∧ ys.length = fs.size ∧
        ∀ (j : Nat) (f : Field), fs[j]? = some f → ∃ (v : Value) (y : DataW H × List MemPlace), w.cell? (a.add (i * fs.size + j)) = some v ∧ ys[j]? = some y ∧ DataW.trod enc P w base spare held n f.type [v] = some y := by
  rcases open_slice ht h with h0 | ⟨a, len, cap, m, n, D, Pl, hcs, hb, hl, hm, hmm, hx, hi⟩
  · exact .inl h0
  · refine .inr ⟨a, len, cap, m, D, Pl, hcs, hb, hl, hm, hmm, by rw [hC] at hx; exact hx, fun i him => ?_⟩
    obtain ⟨cs', hc, ht'⟩ := hi i him
    rw [hC] at hc
    obtain ⟨ys, n', hn', hy, hlen, hyl, hf⟩ := DataW.trod_struct he ht'
    obtain ⟨_, hcl, hat⟩ := World.cells?_some hc
    simp only [Prod.mk.injEq] at hy
    refine ⟨ys, n', hy.1, hy.2, hyl, fun j f hj => ?_⟩
    obtain ⟨ho, hk⟩ := hone_of hone j f hj
    have hjl : j < fs.size := (Array.getElem?_eq_some_iff.1 hj).1
    have hcell := hat j hjl
    have hv : cs'[j]? = some (cs'[j]'(by omega)) := List.getElem?_eq_getElem (by omega)
    have h1 := hf j f hj
    rw [ho, hk] at h1
    have hone' : (cs'.drop j).take 1 = [cs'[j]'(by omega)] := by
      rw [List.drop_eq_getElem_cons (by omega)]
      rfl
    rw [hone'] at h1
    have hys : ys[j]? = some (ys[j]'(by omega)) := List.getElem?_eq_getElem (by omega)
    refine ⟨_, _, ?_, hys, h1.trans hys⟩
    rw [← Go.Deep.add_add, hcell, hv]
end
theorem collect {α : Type} (Q : Nat → α → Prop) : ∀ (m : Nat), (∀ i, i < m → ∃ x, Q i x) → ∃ l : List α, l.length = m ∧ ∀ i p, l[i]? = some p → Q i p
  | 0, _ => ⟨[], rfl, fun i p h => by simp at h⟩
  | m + 1, h => by
    obtain ⟨l, hl, hq⟩ := collect Q m (fun i hi => h i (by omega))
    obtain ⟨x, hx⟩ := h m (by omega)
    refine ⟨l ++ [x], by rw [List.length_append, hl]; rfl, fun i p hp => ?_⟩
    by_cases hi : i < l.length
    · rw [List.getElem?_append_left hi] at hp
      exact hq i p hp
    · rw [List.getElem?_append_right (by omega)] at hp
      have e : i - l.length = 0 := Decidable.byContradiction (fun hne => by rw [List.getElem?_eq_none (by simp; omega)] at hp; cases hp)
      rw [e] at hp
      have e2 : i = m := by omega
      have e3 : x = p := by simpa using hp
      rw [e2, ← e3]; exact hx
theorem own : ownKnob Try.prog.godebug = none := by kernel_rfl
theorem laidOut : laidOutB Try.prog = true := by kernel_rfl
set_option maxRecDepth 100000 in
theorem lifted (os : Os) (started : os.Started) (H : Type) (enc : TypeId × Value → H) :
    ReturnsInHanded {} Try.checked os 4 .any (Rows.fnExactLastOfSpec.pre6 enc Try.prog Try.f4 Rows.fnExactLastOfRow.domain false) (Rows.fnExactLastOfSpec.post enc Try.prog Try.f4 false true false false) := by
  refine returnsInHanded_of_change_sized (C := Try.checked) own started (by kernel_rfl) Try.func4
    (ChangeSpec.witness6 (enc := enc) (C := Try.checked) false ⟨#[], #[.slice none 0 0, .int .i64 0], []⟩ 8 (by kernel_rfl) (by kernel_rfl) (by kernel_rfl) (by kernel_rfl)) ?_
  intro W base args ds gs before hval0 hW hcnd hsz0 _
  have hval : ∀ (j : Nat) t v, Try.f4.params[j]? = some t → args[j]? = some v → Value.okWide Try.prog W .any base t v := hval0
  have hW' := hW
  obtain ⟨p, q, hA0, hV, rfl, hfz, hnd⟩ := hW
  have hA : DataW.TrodAll enc Try.prog W 0 (fun _ => true) true Try.f4.params.toList args.toList ds p := hA0
  rw [Try.params4] at hA hval
  obtain ⟨v0, vs0, d0, ds0, p0, q0, hargs, rfl, rfl, h0, r0⟩ := trodAll_cons hA
  obtain ⟨v1, vs1, d1, ds1, p1, q1, rfl, rfl, rfl, h1, r1⟩ := trodAll_cons r0
  obtain ⟨rfl, rfl, rfl⟩ := trodAll_nil r1
  obtain rfl : args = #[v0, v1] := by cases args; simp_all
  obtain ⟨rfl, rfl⟩ := trodVars_none hV
  obtain ⟨a1, rfl, rfl, rfl, w1⟩ := open_int Try.underlying3 (hval 1 3 v1 rfl rfl) h1
  obtain ⟨A0, len0, cap0, rfl⟩ := okWide_slice Try.underlying27 (hval 0 27 v0 rfl rfl)
  have k0 := h0
  have lt0 : ∀ x ∈ p0, x.block < W.heap.size := by obtain ⟨m, hm⟩ := k0; exact DataW.trod_lt m _ _ _ hm
  obtain ⟨l, rfl, hr, hc, hm, hM⟩ : ∃ l : List HFnExactLastOf.S66, len0 = l.length ∧ Kd.C HFnExactLastOf.k66 W A0 l.length l ∧ l.length ≤ cap0 ∧ l.length ≤ maxLen ∧ ∀ f ∈ l, f.f1.length ≤ maxLen := by
    obtain ⟨fuel, hf⟩ := h0
    rcases open_slice_fields Try.underlying27 Try.underlying66 (by kernel_rfl) (by kernel_rfl) hf with ⟨hcs, _⟩ | ⟨a, len, cap, m, D, Pl, hcs, _, hl, hm, hmm, _, hi⟩
    · simp [Value.cells] at hcs
      obtain ⟨rfl, rfl, rfl⟩ := hcs
      exact ⟨[], rfl, ⟨rfl, by simp, fun h => absurd h (Nat.lt_irrefl _)⟩, by simp, by simp, by simp⟩
    · simp [Value.cells] at hcs
      obtain ⟨rfl, rfl, rfl⟩ := hcs
      have hlm : len0 ≤ m := by rw [hmm]; split <;> omega
      obtain ⟨l, hlen, hq⟩ := collect (fun i (x : HFnExactLastOf.S66) => x.f1.length ≤ maxLen ∧ ∃ A c, W.cell? (a.add (i * 2 + 0)) = some (.int .i64 x.f0) ∧ W.cell? (a.add (i * 2 + 1)) = some (.slice A x.f1.length c) ∧ x.f1.length ≤ c ∧ Kd.C (Kd.int .i64) W A x.f1.length x.f1) len0 (fun i hi' => by
        obtain ⟨ys, n, _, _, _, hfs⟩ := hi i (by omega)
        obtain ⟨u0, y0, hx0, _, t0⟩ := hfs 0 _ rfl
        obtain ⟨u1, y1, hx1, _, t1⟩ := hfs 1 _ rfl
        obtain ⟨b0, e0, _, _⟩ := DataW.trod_int Try.underlying3 t0
        rw [(List.cons.inj e0).1] at hx0
        rcases open_ints Try.underlying22 Try.underlying3 (by kernel_rfl) t1 with ⟨hcs, _⟩ | ⟨x, ln, c, zs, hcs, _, hl2, hm2, hz, _, hce, hwz⟩
        · rw [(List.cons.inj hcs).1] at hx1
          exact ⟨⟨b0, []⟩, by simp, none, 0, hx0, hx1, by simp, ⟨rfl, by simp, fun h => absurd h (Nat.lt_irrefl _)⟩⟩
        · rw [(List.cons.inj hcs).1] at hx1
          obtain ⟨l, e, hr, hm, hw, hc⟩ := ReadsInt.ofRowC (.inr ⟨x, rfl, hl2, hm2, by simpa using hz, hce, hwz⟩)
          subst e
          exact ⟨⟨b0, l⟩, hm, _, _, hx0, hx1, hc, Kd.C_of_reads (d := (0 : Int)) (h1 := fun _ => rfl) hr⟩)
      subst hlen
      have hb : maxLen ≤ 9223372036854775807 := by decide
      refine ⟨l, rfl, ⟨rfl, by omega, fun _ => ⟨a, rfl, fun j p hp => ?_⟩⟩, hl, by omega, fun f hf => ?_⟩
      · obtain ⟨_, A, c, h1, h2, h3, h4⟩ := hq j p hp
        refine ⟨_, rfl, HFnExactLastOf.k66_mk W p h3 h4, fun i u hu => ?_⟩
        match i, hu with
        | 0, hu => obtain rfl := Option.some.inj hu; exact h1
        | 1, hu => obtain rfl := Option.some.inj hu; exact h2
        | i + 2, hu => exact absurd hu (by simp)
      · obtain ⟨j, hj, rfl⟩ := List.getElem_of_mem hf
        exact (hq j _ (List.getElem?_eq_getElem hj)).1
  clear hA0 hval0 hsz0
  refine (Pure.run a1 _ _ l W hr hc hm hM).mono fun e W' ⟨he, bel⟩ => ?_
  subst he
  exact ⟨_, rfl, _, _, _, [], _, [], hW', trodAll_mk1 (shut_bool Try.underlying4 _), trodAll_cons_mk (Below.trod laidOut (by kernel_rfl) (of_decide_eq_true (by kernel_rfl)) k0 bel lt0) (trodAll_cons_mk (shut_int Try.underlying3 w1) trodAll_mk0), rfl, bel.frame _, fun h => by cases h⟩
theorem over : Rows.fnExactLastOfRow.holds Try.pinned (OpenSpec.ofChange Rows.fnExactLastOfSpec) :=
  OpenClaim.holds_of_wide 4 Try.f4 rfl rfl rfl rfl rfl rfl rfl ⟨rfl, rfl, rfl, rfl, rfl⟩ rfl rfl rfl rfl rfl (by kernel_rfl) Try.func4 (by kernel_rfl)
    (of_decide_eq_true (by kernel_rfl)) (by unfold Func.isWrapper; first | (rw [if_pos (by decide +kernel)]; kernel_rfl) | (rw [if_neg (by decide +kernel)]; exact ⟨rfl, rfl⟩))
    (fun os started H enc _ => lifted os started H enc)
theorem proved : Rows.FnExactLastOfSaid := over
#print axioms proved
end Go.Proofs.Ytnolmimfpnngjaa.fnExactLastOf
namespace Go.Proofs.Ytnolmimfpnngjaa
/-- The row, under a short name, for the claim. -/
theorem fnExactLastOf_holds : Rows.FnExactLastOfSaid := fnExactLastOf.proved
end Go.Proofs.Ytnolmimfpnngjaa
