-- Written by wip/hp.py, a program of this session.
import Derived.Test.YtnolmimfpnngjaaHFnAgreex0
import Derived.Test.YtnolmimfpnngjaaHFnAgreex1
import Derived.Test.YtnolmimfpnngjaaHFnAgreex4
import Derived.Test.YtnolmimfpnngjaaHFnAgreex5
namespace Go.Proofs.Ytnolmimfpnngjaa.HFnAgree
open Go.RowKit Go.Proofs.YtnolmimfpnngjaaW.PrintWords Go.Proofs.YtnolmimfpnngjaaW.PrintLast Go.Proofs.YtnolmimfpnngjaaW.PrintMore
attribute [local go_sem] max2_int min2_int max_two min_two max_three min_three max_four min_four   -- for this text's walks alone
set_option linter.unusedVariables false
set_option linter.unusedSimpArgs false

/-! ### laws_FnAgree: function 9 -/
mutual
def laws_FnAgree.j0 : Nat → Int → Int → Bool → Int → Int → Bool → Bool → Int → Int → Int → List Int → Int → Int → Int → List Int → Option (Bool)
  | 0, _, _, _, _, _, _, _, _, _, _, _, _, _, _, _ => none
  | k + 1, x5, x6, x7, x8, x9, x10, x54, x212000, x212001, x212002, x212003, x213000, x213001, x213002, x213003 => if x54 = true then (if x5 = x8 then (if x6 = x9 then (some (x7 == x10)) else (some false)) else (some false)) else ((impl_Agree.f k x213000 x213001 x213002 x213003 x212000 x212001 x212002 x212003).bind fun bt219 => (laws_FnAgree.l0 k x5 x6 bt219.1 bt219.2.1 bt219.2.2 0 x212000 x212001 x212002 x212003 x213000 x213001 x213002 x213003))
def laws_FnAgree.l0 : Nat → Int → Int → Int → Int → Bool → Int → Int → Int → Int → List Int → Int → Int → Int → List Int → Option (Bool)
  | 0, _, _, _, _, _, _, _, _, _, _, _, _, _, _ => none
  | k + 1, x5, x6, x11, x12, x13, x14, x212000, x212001, x212002, x212003, x213000, x213001, x213002, x213003 => if x14 < 5 then (if 0 ≤ x14 then (if x14 < (x212003.length : Int) then (if x14 < (x213003.length : Int) then ((laws_bit.f k x6 x14).bind fun t224 => (if t224 = 1 then (laws_FnAgree.j2 k x5 x6 x11 x12 x13 x14 (Go.bits .or .i64 (rd x212003 x14) (rd x213003 x14)) ((Go.bits .and .i64 (Go.bits .or .i64 (rd x212003 x14) (rd x213003 x14)) x6) != (Go.bits .or .i64 (rd x212003 x14) (rd x213003 x14))) x212000 x212001 x212002 x212003 x213000 x213001 x213002 x213003) else (laws_FnAgree.j2 k x5 x6 x11 x12 x13 x14 (Go.bits .or .i64 (rd x212003 x14) (rd x213003 x14)) false x212000 x212001 x212002 x212003 x213000 x213001 x213002 x213003))) else (none)) else (none)) else (none)) else (if x13 = true then (if x11 = x5 then (if x12 = x6 then (if x5 ≥ x212000 then (if x5 ≥ x213000 then (some ((Go.bits .and .i64 (Go.bits .and .i64 x6 x212002) x213002) == x6)) else (some false)) else (some false)) else (some false)) else (some false)) else (some false))
def laws_FnAgree.j2 : Nat → Int → Int → Int → Int → Bool → Int → Int → Bool → Int → Int → Int → List Int → Int → Int → Int → List Int → Option (Bool)
  | 0, _, _, _, _, _, _, _, _, _, _, _, _, _, _, _, _ => none
  | k + 1, x5, x6, x11, x12, x13, x14, x15, x100, x212000, x212001, x212002, x212003, x213000, x213001, x213002, x213003 => if x100 = true then (some false) else ((laws_bit.f k (Go.bits .and .i64 x212002 x213002) x14).bind fun t225 => (if t225 = 1 then ((laws_bit.f k x6 x14).bind fun t226 => (if t226 = 0 then ((laws_power.f k x14).bind fun t227 => (if (Go.bits .and .i64 x15 (Go.bits .or .i64 x6 t227)) = x15 then (some false) else (laws_FnAgree.l0 k x5 x6 x11 x12 x13 (wrap64 (x14 + 1)) x212000 x212001 x212002 x212003 x213000 x213001 x213002 x213003))) else (laws_FnAgree.l0 k x5 x6 x11 x12 x13 (wrap64 (x14 + 1)) x212000 x212001 x212002 x212003 x213000 x213001 x213002 x213003))) else (laws_FnAgree.l0 k x5 x6 x11 x12 x13 (wrap64 (x14 + 1)) x212000 x212001 x212002 x212003 x213000 x213001 x213002 x213003)))
end
def laws_FnAgree.f (k : Nat) (l0 : List Int) : Option (Bool) := if (l0.length : Int) > 1048576 then (some true) else ((spec_DrawAgree.f k l0).bind fun bt199 => ((impl_Agree.f k bt199.1 bt199.2.1 bt199.2.2.1 bt199.2.2.2.1 bt199.2.2.2.2.1 bt199.2.2.2.2.2.1 bt199.2.2.2.2.2.2.1 bt199.2.2.2.2.2.2.2).bind fun bt213 => ((spec_Agree.f k bt199.1 bt199.2.1 bt199.2.2.1 bt199.2.2.2.1 bt199.2.2.2.2.1 bt199.2.2.2.2.2.1 bt199.2.2.2.2.2.2.1 bt199.2.2.2.2.2.2.2).bind fun bt216 => (if bt213.1 = bt216.1 then (if bt213.2.1 = bt216.2.1 then (if (bt213.2.2 != bt216.2.2) = true then (laws_FnAgree.j0 k bt213.1 bt213.2.1 bt213.2.2 bt216.1 bt216.2.1 bt216.2.2 true bt199.1 bt199.2.1 bt199.2.2.1 bt199.2.2.2.1 bt199.2.2.2.2.1 bt199.2.2.2.2.2.1 bt199.2.2.2.2.2.2.1 bt199.2.2.2.2.2.2.2) else (laws_FnAgree.j0 k bt213.1 bt213.2.1 bt213.2.2 bt216.1 bt216.2.1 bt216.2.2 (!bt213.2.2) bt199.1 bt199.2.1 bt199.2.2.1 bt199.2.2.2.1 bt199.2.2.2.2.1 bt199.2.2.2.2.2.1 bt199.2.2.2.2.2.2.1 bt199.2.2.2.2.2.2.2)) else (laws_FnAgree.j0 k bt213.1 bt213.2.1 bt213.2.2 bt216.1 bt216.2.1 bt216.2.2 true bt199.1 bt199.2.1 bt199.2.2.1 bt199.2.2.2.1 bt199.2.2.2.2.1 bt199.2.2.2.2.2.1 bt199.2.2.2.2.2.2.1 bt199.2.2.2.2.2.2.2)) else (laws_FnAgree.j0 k bt213.1 bt213.2.1 bt213.2.2 bt216.1 bt216.2.1 bt216.2.2 true bt199.1 bt199.2.1 bt199.2.2.1 bt199.2.2.2.1 bt199.2.2.2.2.1 bt199.2.2.2.2.2.1 bt199.2.2.2.2.2.2.1 bt199.2.2.2.2.2.2.2)))))
theorem laws_FnAgree.mono_l : ∀ k, (∀ y0 y1 y2 y3 y4 y5 y6 y7 y8 y9 y10 y11 y12 y13 y14, LeO (laws_FnAgree.j0 k y0 y1 y2 y3 y4 y5 y6 y7 y8 y9 y10 y11 y12 y13 y14) (laws_FnAgree.j0 (k + 1) y0 y1 y2 y3 y4 y5 y6 y7 y8 y9 y10 y11 y12 y13 y14)) ∧ (∀ y0 y1 y2 y3 y4 y5 y6 y7 y8 y9 y10 y11 y12 y13, LeO (laws_FnAgree.l0 k y0 y1 y2 y3 y4 y5 y6 y7 y8 y9 y10 y11 y12 y13) (laws_FnAgree.l0 (k + 1) y0 y1 y2 y3 y4 y5 y6 y7 y8 y9 y10 y11 y12 y13)) ∧ (∀ y0 y1 y2 y3 y4 y5 y6 y7 y8 y9 y10 y11 y12 y13 y14 y15, LeO (laws_FnAgree.j2 k y0 y1 y2 y3 y4 y5 y6 y7 y8 y9 y10 y11 y12 y13 y14 y15) (laws_FnAgree.j2 (k + 1) y0 y1 y2 y3 y4 y5 y6 y7 y8 y9 y10 y11 y12 y13 y14 y15))
  | 0 => ⟨fun _ _ _ _ _ _ _ _ _ _ _ _ _ _ _ r h => by simp [laws_FnAgree.j0] at h, fun _ _ _ _ _ _ _ _ _ _ _ _ _ _ r h => by simp [laws_FnAgree.l0] at h, fun _ _ _ _ _ _ _ _ _ _ _ _ _ _ _ _ r h => by simp [laws_FnAgree.j2] at h⟩
  | k + 1 => by
    obtain ⟨ih0, ih1, ih2⟩ := laws_FnAgree.mono_l k
    refine ⟨?_, ?_, ?_⟩
    · intro y0 y1 y2 y3 y4 y5 y6 y7 y8 y9 y10 y11 y12 y13 y14
      unfold laws_FnAgree.j0
      repeat' first
      | (with_reducible exact ih0 _ _ _ _ _ _ _ _ _ _ _ _ _ _ _)
      | (with_reducible exact ih1 _ _ _ _ _ _ _ _ _ _ _ _ _ _)
      | (with_reducible exact ih2 _ _ _ _ _ _ _ _ _ _ _ _ _ _ _ _)
      | (with_reducible exact impl_Agree.mono _ _ _ _ _ _ _ _ _)
      | (with_reducible exact laws_bit.mono _ _ _)
      | (with_reducible exact laws_power.mono _ _)
      | (with_reducible exact spec_Agree.mono _ _ _ _ _ _ _ _ _)
      | (with_reducible exact spec_DrawAgree.mono _ _)
      | (with_reducible exact LeO.refl _)
      | (with_reducible exact LeO.none _)
      | (with_reducible refine LeO.ite ?_ ?_)
      | (with_reducible refine LeO.bind ?_ (fun _ => ?_))
      | exact ih0 _ _ _ _ _ _ _ _ _ _ _ _ _ _ _
      | exact ih1 _ _ _ _ _ _ _ _ _ _ _ _ _ _
      | exact ih2 _ _ _ _ _ _ _ _ _ _ _ _ _ _ _ _
      | exact impl_Agree.mono _ _ _ _ _ _ _ _ _
      | exact laws_bit.mono _ _ _
      | exact laws_power.mono _ _
      | exact spec_Agree.mono _ _ _ _ _ _ _ _ _
      | exact spec_DrawAgree.mono _ _
      | exact LeO.none _
      | refine LeO.ite ?_ ?_
      | refine LeO.bind ?_ (fun _ => ?_)
    · intro y0 y1 y2 y3 y4 y5 y6 y7 y8 y9 y10 y11 y12 y13
      unfold laws_FnAgree.l0
      repeat' first
      | (with_reducible exact ih0 _ _ _ _ _ _ _ _ _ _ _ _ _ _ _)
      | (with_reducible exact ih1 _ _ _ _ _ _ _ _ _ _ _ _ _ _)
      | (with_reducible exact ih2 _ _ _ _ _ _ _ _ _ _ _ _ _ _ _ _)
      | (with_reducible exact impl_Agree.mono _ _ _ _ _ _ _ _ _)
      | (with_reducible exact laws_bit.mono _ _ _)
      | (with_reducible exact laws_power.mono _ _)
      | (with_reducible exact spec_Agree.mono _ _ _ _ _ _ _ _ _)
      | (with_reducible exact spec_DrawAgree.mono _ _)
      | (with_reducible exact LeO.refl _)
      | (with_reducible exact LeO.none _)
      | (with_reducible refine LeO.ite ?_ ?_)
      | (with_reducible refine LeO.bind ?_ (fun _ => ?_))
      | exact ih0 _ _ _ _ _ _ _ _ _ _ _ _ _ _ _
      | exact ih1 _ _ _ _ _ _ _ _ _ _ _ _ _ _
      | exact ih2 _ _ _ _ _ _ _ _ _ _ _ _ _ _ _ _
      | exact impl_Agree.mono _ _ _ _ _ _ _ _ _
      | exact laws_bit.mono _ _ _
      | exact laws_power.mono _ _
      | exact spec_Agree.mono _ _ _ _ _ _ _ _ _
      | exact spec_DrawAgree.mono _ _
      | exact LeO.none _
      | refine LeO.ite ?_ ?_
      | refine LeO.bind ?_ (fun _ => ?_)
    · intro y0 y1 y2 y3 y4 y5 y6 y7 y8 y9 y10 y11 y12 y13 y14 y15
      unfold laws_FnAgree.j2
      repeat' first
      | (with_reducible exact ih0 _ _ _ _ _ _ _ _ _ _ _ _ _ _ _)
      | (with_reducible exact ih1 _ _ _ _ _ _ _ _ _ _ _ _ _ _)
      | (with_reducible exact ih2 _ _ _ _ _ _ _ _ _ _ _ _ _ _ _ _)
      | (with_reducible exact impl_Agree.mono _ _ _ _ _ _ _ _ _)
      | (with_reducible exact laws_bit.mono _ _ _)
      | (with_reducible exact laws_power.mono _ _)
      | (with_reducible exact spec_Agree.mono _ _ _ _ _ _ _ _ _)
      | (with_reducible exact spec_DrawAgree.mono _ _)
      | (with_reducible exact LeO.refl _)
      | (with_reducible exact LeO.none _)
      | (with_reducible refine LeO.ite ?_ ?_)
      | (with_reducible refine LeO.bind ?_ (fun _ => ?_))
      | exact ih0 _ _ _ _ _ _ _ _ _ _ _ _ _ _ _
      | exact ih1 _ _ _ _ _ _ _ _ _ _ _ _ _ _
      | exact ih2 _ _ _ _ _ _ _ _ _ _ _ _ _ _ _ _
      | exact impl_Agree.mono _ _ _ _ _ _ _ _ _
      | exact laws_bit.mono _ _ _
      | exact laws_power.mono _ _
      | exact spec_Agree.mono _ _ _ _ _ _ _ _ _
      | exact spec_DrawAgree.mono _ _
      | exact LeO.none _
      | refine LeO.ite ?_ ?_
      | refine LeO.bind ?_ (fun _ => ?_)
theorem laws_FnAgree.mono : ∀ a0 k, LeO (laws_FnAgree.f k a0) (laws_FnAgree.f (k + 1) a0) := by
  intro a0 k
  obtain ⟨ih0, ih1, ih2⟩ := laws_FnAgree.mono_l k
  unfold laws_FnAgree.f
  repeat' first
      | (with_reducible exact ih0 _ _ _ _ _ _ _ _ _ _ _ _ _ _ _)
      | (with_reducible exact ih1 _ _ _ _ _ _ _ _ _ _ _ _ _ _)
      | (with_reducible exact ih2 _ _ _ _ _ _ _ _ _ _ _ _ _ _ _ _)
      | (with_reducible exact impl_Agree.mono _ _ _ _ _ _ _ _ _)
      | (with_reducible exact laws_bit.mono _ _ _)
      | (with_reducible exact laws_power.mono _ _)
      | (with_reducible exact spec_Agree.mono _ _ _ _ _ _ _ _ _)
      | (with_reducible exact spec_DrawAgree.mono _ _)
      | (with_reducible exact LeO.refl _)
      | (with_reducible exact LeO.none _)
      | (with_reducible refine LeO.ite ?_ ?_)
      | (with_reducible refine LeO.bind ?_ (fun _ => ?_))
      | exact ih0 _ _ _ _ _ _ _ _ _ _ _ _ _ _ _
      | exact ih1 _ _ _ _ _ _ _ _ _ _ _ _ _ _
      | exact ih2 _ _ _ _ _ _ _ _ _ _ _ _ _ _ _ _
      | exact impl_Agree.mono _ _ _ _ _ _ _ _ _
      | exact laws_bit.mono _ _ _
      | exact laws_power.mono _ _
      | exact spec_Agree.mono _ _ _ _ _ _ _ _ _
      | exact spec_DrawAgree.mono _ _
      | exact LeO.none _
      | refine LeO.ite ?_ ?_
      | refine LeO.bind ?_ (fun _ => ?_)
set_option maxHeartbeats 8000000 in
set_option maxRecDepth 100000 in
theorem laws_FnAgree.calls (k : Nat) (A0 : Option Addr) (c0 : Nat) (l0 : List Int) (r : Bool) (w : World) (hr0 : Kd.C (Kd.int .u8) w A0 l0.length l0) (hc0 : l0.length ≤ c0) (h : laws_FnAgree.f k l0 = some r) :
    Calls Try.prog 9 #[.slice A0 l0.length c0] w fun e w' => e = .returned (.bool r) ∧ Below w.heap.size w w' := by
  have hu40 := Try.underlying40
  have HR0 := Aside0.mk hr0
  have HC0 := Aside0.mk hc0
  clear hr0 hc0
  have HB := Aside0.mk (Below.refl w.heap.size w)
  have H : (if (l0.length : Int) > 1048576 then (some true) else ((spec_DrawAgree.f k l0).bind fun bt199 => ((impl_Agree.f k bt199.1 bt199.2.1 bt199.2.2.1 bt199.2.2.2.1 bt199.2.2.2.2.1 bt199.2.2.2.2.2.1 bt199.2.2.2.2.2.2.1 bt199.2.2.2.2.2.2.2).bind fun bt213 => ((spec_Agree.f k bt199.1 bt199.2.1 bt199.2.2.1 bt199.2.2.2.1 bt199.2.2.2.2.1 bt199.2.2.2.2.2.1 bt199.2.2.2.2.2.2.1 bt199.2.2.2.2.2.2.2).bind fun bt216 => (if bt213.1 = bt216.1 then (if bt213.2.1 = bt216.2.1 then (if (bt213.2.2 != bt216.2.2) = true then (laws_FnAgree.j0 k bt213.1 bt213.2.1 bt213.2.2 bt216.1 bt216.2.1 bt216.2.2 true bt199.1 bt199.2.1 bt199.2.2.1 bt199.2.2.2.1 bt199.2.2.2.2.1 bt199.2.2.2.2.2.1 bt199.2.2.2.2.2.2.1 bt199.2.2.2.2.2.2.2) else (laws_FnAgree.j0 k bt213.1 bt213.2.1 bt213.2.2 bt216.1 bt216.2.1 bt216.2.2 (!bt213.2.2) bt199.1 bt199.2.1 bt199.2.2.1 bt199.2.2.2.1 bt199.2.2.2.2.1 bt199.2.2.2.2.2.1 bt199.2.2.2.2.2.2.1 bt199.2.2.2.2.2.2.2)) else (laws_FnAgree.j0 k bt213.1 bt213.2.1 bt213.2.2 bt216.1 bt216.2.1 bt216.2.2 true bt199.1 bt199.2.1 bt199.2.2.1 bt199.2.2.2.1 bt199.2.2.2.2.1 bt199.2.2.2.2.2.1 bt199.2.2.2.2.2.2.1 bt199.2.2.2.2.2.2.2)) else (laws_FnAgree.j0 k bt213.1 bt213.2.1 bt213.2.2 bt216.1 bt216.2.1 bt216.2.2 true bt199.1 bt199.2.1 bt199.2.2.1 bt199.2.2.2.1 bt199.2.2.2.2.1 bt199.2.2.2.2.2.1 bt199.2.2.2.2.2.2.1 bt199.2.2.2.2.2.2.2)))))) = some r := h
  clear h
  by_cases c2 : (l0.length : Int) > 1048576
  · rw [if_pos c2] at H
    have c2b0 : decide (1048576 < (l0.length : Int)) = true := decide_eq_true c2
    have c2b1 : decide (1048576 < l0.length) = true := decide_eq_true (by omega)
    clear c2
    obtain rfl := Option.some.inj H
    go_enter Try.func9, Try.ntmps9
    go_wp2
    repeat (go_quiet (fail); try go_wp2)
    go_ret
    exact ⟨by first | rfl | (simp [errW_none, errW_some] <;> rfl) | (simp [*, errW_none, errW_some] <;> rfl), by repeat (first | (with_reducible first | exact HB.out | apply below_alloc | apply pw_below_drewN | apply below_drew1) | exact HB.out)⟩
  · rw [if_neg c2] at H
    have c2b0 : decide (1048576 < (l0.length : Int)) = false := decide_eq_false c2
    have c2b1 : decide (1048576 < l0.length) = false := decide_eq_false (by omega)
    clear c2
    replace H := Option.bind_eq_some_iff.mp H
    obtain ⟨⟨t199, t200, t201, t202, t205, t206, t207, t208⟩, A30, H⟩ := H
    replace H : ((impl_Agree.f k t199 t200 t201 t202 t205 t206 t207 t208).bind fun bt213 => ((spec_Agree.f k t199 t200 t201 t202 t205 t206 t207 t208).bind fun bt216 => (if bt213.1 = bt216.1 then (if bt213.2.1 = bt216.2.1 then (if (bt213.2.2 != bt216.2.2) = true then (laws_FnAgree.j0 k bt213.1 bt213.2.1 bt213.2.2 bt216.1 bt216.2.1 bt216.2.2 true t199 t200 t201 t202 t205 t206 t207 t208) else (laws_FnAgree.j0 k bt213.1 bt213.2.1 bt213.2.2 bt216.1 bt216.2.1 bt216.2.2 (!bt213.2.2) t199 t200 t201 t202 t205 t206 t207 t208)) else (laws_FnAgree.j0 k bt213.1 bt213.2.1 bt213.2.2 bt216.1 bt216.2.1 bt216.2.2 true t199 t200 t201 t202 t205 t206 t207 t208)) else (laws_FnAgree.j0 k bt213.1 bt213.2.1 bt213.2.2 bt216.1 bt216.2.1 bt216.2.2 true t199 t200 t201 t202 t205 t206 t207 t208)))) = some r := H
    have A3 := Aside0.mk A30
    clear A30
    replace H := Option.bind_eq_some_iff.mp H
    obtain ⟨⟨t213, t214, t215⟩, A40, H⟩ := H
    replace H : ((spec_Agree.f k t199 t200 t201 t202 t205 t206 t207 t208).bind fun bt216 => (if t213 = bt216.1 then (if t214 = bt216.2.1 then (if (t215 != bt216.2.2) = true then (laws_FnAgree.j0 k t213 t214 t215 bt216.1 bt216.2.1 bt216.2.2 true t199 t200 t201 t202 t205 t206 t207 t208) else (laws_FnAgree.j0 k t213 t214 t215 bt216.1 bt216.2.1 bt216.2.2 (!t215) t199 t200 t201 t202 t205 t206 t207 t208)) else (laws_FnAgree.j0 k t213 t214 t215 bt216.1 bt216.2.1 bt216.2.2 true t199 t200 t201 t202 t205 t206 t207 t208)) else (laws_FnAgree.j0 k t213 t214 t215 bt216.1 bt216.2.1 bt216.2.2 true t199 t200 t201 t202 t205 t206 t207 t208))) = some r := H
    have A4 := Aside0.mk A40
    clear A40
    replace H := Option.bind_eq_some_iff.mp H
    obtain ⟨⟨t216, t217, t218⟩, A50, H⟩ := H
    replace H : (if t213 = t216 then (if t214 = t217 then (if (t215 != t218) = true then (laws_FnAgree.j0 k t213 t214 t215 t216 t217 t218 true t199 t200 t201 t202 t205 t206 t207 t208) else (laws_FnAgree.j0 k t213 t214 t215 t216 t217 t218 (!t215) t199 t200 t201 t202 t205 t206 t207 t208)) else (laws_FnAgree.j0 k t213 t214 t215 t216 t217 t218 true t199 t200 t201 t202 t205 t206 t207 t208)) else (laws_FnAgree.j0 k t213 t214 t215 t216 t217 t218 true t199 t200 t201 t202 t205 t206 t207 t208)) = some r := H
    have A5 := Aside0.mk A50
    clear A50
    have HC6 := Aside0.mk H
    clear H
    go_enter Try.func9, Try.ntmps9
    go_upto_region 6 with (first | (go_at_call 36; (with_reducible refine (spec_DrawAgree.calls k _ _ l0 t199 t200 t201 t202 t205 t206 t207 t208 _ ?side1 ?side2 A3.out).mono ?_); (case side1 => repeat (first | exact HR0.out | (with_reducible refine Kd.C_alloc ?_ _) | (with_reducible refine Kd.C_drewN ?_ _) | (with_reducible refine Kd.C_drew ?_))); (case side2 => exact HC0.out); rintro e w7 ⟨v203, v209, rfl, ho0, ho1, hb⟩; have n0_ := Aside0.mk (Kd.Q_lower ho0 (below_size (by repeat (first | (with_reducible first | exact HB.out | apply below_alloc | apply pw_below_drewN | apply below_drew1) | exact HB.out)))); have n1_ := Aside0.mk (Kd.Q_lower ho1 (below_size (by repeat (first | (with_reducible first | exact HB.out | apply below_alloc | apply pw_below_drewN | apply below_drew1) | exact HB.out)))); have n2_ := Aside0.mk (below_step (by repeat (first | (with_reducible first | exact HB.out | apply below_alloc | apply pw_below_drewN | apply below_drew1) | exact HB.out)) hb); clear HB; have HO204 := n0_; have HO210 := n1_; have HB := n2_; clear n0_ n1_ n2_; (try clear hb); (try clear hb2); (try clear hk); (try clear hi); (try clear ho0); (try clear ho1)) | ((with_reducible refine gate_dst (N := 3) rfl ?_); refine box_event ?hg (N := 3) ?hd (cs := #[.int .i64 0, .int .i64 0, .int .i64 0, .slice none 0 0]) (t := 40) ?hr ?_; (case hd => rfl); (case hg => rfl); (case hr => first | (go_simp; done) | (go_simp; rfl)); intro gb211 hg w8 hbox hb; have n0_ := Aside0.mk (Kd.Q_below (by (with_reducible repeat (first | apply Kd.Q_alloc | apply Kd.Q_drewN | apply Kd.Q_drew)); exact HO204.out) hb); have n1_ := Aside0.mk (Kd.Q_below (by (with_reducible repeat (first | apply Kd.Q_alloc | apply Kd.Q_drewN | apply Kd.Q_drew)); exact HO210.out) hb); have n2_ := Aside0.mk (below_step (by repeat (first | (with_reducible first | exact HB.out | apply below_alloc | apply pw_below_drewN | apply below_drew1) | exact HB.out)) hb); have n3_ := Aside0.mk (hbox); have n4_ := Aside0.mk ((by rw [hg]; exact (below_size (by repeat (first | (with_reducible first | exact HB.out | apply below_alloc | apply pw_below_drewN | apply below_drew1) | exact HB.out))) : w.heap.size ≤ gb211)); have n5_ := Aside0.mk ((by rw [hg]; exact (below_size (by repeat (first | (with_reducible first | exact HB.out | apply below_alloc | apply pw_below_drewN | apply below_drew1) | exact HB.out))) : w.heap.size ≤ gb211)); clear HO204; clear HO210; clear HB; have HO204 := n0_; have HO210 := n1_; have HB := n2_; have BK211 := n3_; have GW211 := n4_; have GE211 := n5_; clear n0_ n1_ n2_ n3_ n4_ n5_; clear hb hbox hg) | ((with_reducible refine gate_dst (N := 4) rfl ?_); refine box_event ?hg (N := 4) ?hd (cs := #[.int .i64 0, .int .i64 0, .int .i64 0, .slice none 0 0]) (t := 40) ?hr ?_; (case hd => rfl); (case hg => rfl); (case hr => first | (go_simp; done) | (go_simp; rfl)); intro gb212 hg w9 hbox hb; have n0_ := Aside0.mk (Kd.Q_below (by (with_reducible repeat (first | apply Kd.Q_alloc | apply Kd.Q_drewN | apply Kd.Q_drew)); exact HO204.out) hb); have n1_ := Aside0.mk (Kd.Q_below (by (with_reducible repeat (first | apply Kd.Q_alloc | apply Kd.Q_drewN | apply Kd.Q_drew)); exact HO210.out) hb); have n2_ := Aside0.mk (blk_below (g := gb211) (o := .cells #[.int .i64 0, .int .i64 0, .int .i64 0, .slice none 0 0] 40 (0, 0)) (by (with_reducible repeat (first | refine blk_drewN ?_ _ | refine blk_drew ?_ | refine blk_alloc ?_ _)); exact BK211.out) hb); have n3_ := Aside0.mk (below_step (by repeat (first | (with_reducible first | exact HB.out | apply below_alloc | apply pw_below_drewN | apply below_drew1 | refine below_set ?_ GE211.out) | exact HB.out)) hb); have n4_ := Aside0.mk (hbox); have n5_ := Aside0.mk ((by rw [hg]; exact (below_size (by repeat (first | (with_reducible first | exact HB.out | apply below_alloc | apply pw_below_drewN | apply below_drew1 | refine below_set ?_ GE211.out) | exact HB.out))) : w.heap.size ≤ gb212)); have n6_ := Aside0.mk ((by rw [hg]; exact (below_size (by repeat (first | (with_reducible first | exact HB.out | apply below_alloc | apply pw_below_drewN | apply below_drew1 | refine below_set ?_ GE211.out) | exact HB.out))) : w.heap.size ≤ gb212)); have n7_ := Aside0.mk ((by rw [hg]; exact Nat.ne_of_lt (blk_lt (g := gb211) (o := .cells #[.int .i64 0, .int .i64 0, .int .i64 0, .slice none 0 0] 40 (0, 0)) (by (with_reducible repeat (first | refine blk_drewN ?_ _ | refine blk_drew ?_ | refine blk_alloc ?_ _)); exact BK211.out)) : gb211 ≠ gb212)); have n8_ := Aside0.mk ((by rw [hg]; exact Nat.ne_of_gt (blk_lt (g := gb211) (o := .cells #[.int .i64 0, .int .i64 0, .int .i64 0, .slice none 0 0] 40 (0, 0)) (by (with_reducible repeat (first | refine blk_drewN ?_ _ | refine blk_drew ?_ | refine blk_alloc ?_ _)); exact BK211.out)) : gb212 ≠ gb211)); clear HO204; clear HO210; clear BK211; clear HB; have HO204 := n0_; have HO210 := n1_; have BK211 := n2_; have HB := n3_; have BK212 := n4_; have GW212 := n5_; have GE212 := n6_; have NB211_212 := n7_; have NB212_211 := n8_; clear n0_ n1_ n2_ n3_ n4_ n5_ n6_ n7_ n8_; clear hb hbox hg; have hnb10 := NB211_212.out; have hnc10 := NB212_211.out; have hcz11_0 : w9.cell? ⟨gb211, 0, none⟩ = some (.int .i64 0) := (blk_cell BK211.out 0).trans rfl; have hcz11_1 : w9.cell? ⟨gb211, 1, none⟩ = some (.int .i64 0) := (blk_cell BK211.out 1).trans rfl; have hcz11_2 : w9.cell? ⟨gb211, 2, none⟩ = some (.int .i64 0) := (blk_cell BK211.out 2).trans rfl; have hcz11_3 : w9.cell? ⟨gb211, 3, none⟩ = some (.slice none 0 0) := (blk_cell BK211.out 3).trans rfl; have hfz11_0 := blk_frozen BK211.out 0; have hfz11_1 := blk_frozen BK211.out 1; have hfz11_2 := blk_frozen BK211.out 2; have hfz11_3 := blk_frozen BK211.out 3; obtain ⟨Ao12, co12, eo12, _⟩ := Kd.Q_slice HO204.out; subst eo12; have hcz13_0 : w9.cell? ⟨gb212, 0, none⟩ = some (.int .i64 0) := (blk_cell BK212.out 0).trans rfl; have hcz13_1 : w9.cell? ⟨gb212, 1, none⟩ = some (.int .i64 0) := (blk_cell BK212.out 1).trans rfl; have hcz13_2 : w9.cell? ⟨gb212, 2, none⟩ = some (.int .i64 0) := (blk_cell BK212.out 2).trans rfl; have hcz13_3 : w9.cell? ⟨gb212, 3, none⟩ = some (.slice none 0 0) := (blk_cell BK212.out 3).trans rfl; have hfz13_0 := blk_frozen BK212.out 0; have hfz13_1 := blk_frozen BK212.out 1; have hfz13_2 := blk_frozen BK212.out 2; have hfz13_3 := blk_frozen BK212.out 3; obtain ⟨Ao14, co14, eo14, _⟩ := Kd.Q_slice HO210.out; subst eo14) | (go_at_call 30; (with_reducible refine (impl_Agree.calls k t199 t200 t201 _ _ t202 t205 t206 t207 _ _ t208 t213 t214 t215 _ ?side1 ?side2 ?side3 ?side4 A4.out).mono ?_); (case side1 => refine (Kd.Q_reads' (e := 3) (base := w.heap.size) (ok := fun k_ => some k_ ≠ (.slice Ao14 t208.length co14 : Value).ownBlock) (n := t202.length) (c := co12) ?_).2.2; exact (by (with_reducible repeat (first | apply Kd.Q_alloc | apply Kd.Q_drewN | apply Kd.Q_drew)); exact (Kd.Q_mono (Kd.Q_mono (Kd.Q_far (p := ⟨gb212, 3, none⟩) (Kd.Q_far (p := ⟨gb212, 2, none⟩) (Kd.Q_far (p := ⟨gb212, 1, none⟩) (Kd.Q_far (p := ⟨gb212, 0, none⟩) (Kd.Q_far (p := ⟨gb211, 3, none⟩) (Kd.Q_far (p := ⟨gb211, 2, none⟩) (Kd.Q_far (p := ⟨gb211, 1, none⟩) (Kd.Q_far (p := ⟨gb211, 0, none⟩) (Kd.Q_types (Kd.Q_types HO204.out BK211.out (by decide)) BK212.out (by decide)) (fun _ hk => hk.1.2) (.int .i64 t199)) (fun _ hk => hk.1.2) (.int .i64 t200)) (fun _ hk => hk.1.2) (.int .i64 t201)) (fun _ hk => hk.1.2) (.slice Ao12 t202.length co12)) (fun _ hk => hk.2) (.int .i64 t205)) (fun _ hk => hk.2) (.int .i64 t206)) (fun _ hk => hk.2) (.int .i64 t207)) (fun _ hk => hk.2) (.slice Ao14 t208.length co14)) (fun _ h_ => h_.1)) (fun _ h_ => h_.1)))); (case side2 => exact (Kd.Q_reads' HO204.out).2.1); (case side3 => refine (Kd.Q_reads' (e := 3) (base := w.heap.size) (ok := fun k_ => some k_ ≠ (.slice Ao12 t202.length co12 : Value).ownBlock) (n := t208.length) (c := co14) ?_).2.2; exact (by (with_reducible repeat (first | apply Kd.Q_alloc | apply Kd.Q_drewN | apply Kd.Q_drew)); exact (Kd.Q_mono (Kd.Q_mono (Kd.Q_far (p := ⟨gb212, 3, none⟩) (Kd.Q_far (p := ⟨gb212, 2, none⟩) (Kd.Q_far (p := ⟨gb212, 1, none⟩) (Kd.Q_far (p := ⟨gb212, 0, none⟩) (Kd.Q_far (p := ⟨gb211, 3, none⟩) (Kd.Q_far (p := ⟨gb211, 2, none⟩) (Kd.Q_far (p := ⟨gb211, 1, none⟩) (Kd.Q_far (p := ⟨gb211, 0, none⟩) (Kd.Q_types (Kd.Q_types HO210.out BK211.out (by decide)) BK212.out (by decide)) (fun _ hk => hk.1.2) (.int .i64 t199)) (fun _ hk => hk.1.2) (.int .i64 t200)) (fun _ hk => hk.1.2) (.int .i64 t201)) (fun _ hk => hk.1.2) (.slice Ao12 t202.length co12)) (fun _ hk => hk.2) (.int .i64 t205)) (fun _ hk => hk.2) (.int .i64 t206)) (fun _ hk => hk.2) (.int .i64 t207)) (fun _ hk => hk.2) (.slice Ao14 t208.length co14)) (fun _ h_ => h_.1)) (fun _ h_ => h_.1)))); (case side4 => exact (Kd.Q_reads' HO210.out).2.1); rintro e w15 ⟨rfl, hb⟩; have n0_ := Aside0.mk (Kd.Q_below (by (with_reducible repeat (first | apply Kd.Q_alloc | apply Kd.Q_drewN | apply Kd.Q_drew)); exact (Kd.Q_mono (Kd.Q_mono (Kd.Q_far (p := ⟨gb212, 3, none⟩) (Kd.Q_far (p := ⟨gb212, 2, none⟩) (Kd.Q_far (p := ⟨gb212, 1, none⟩) (Kd.Q_far (p := ⟨gb212, 0, none⟩) (Kd.Q_far (p := ⟨gb211, 3, none⟩) (Kd.Q_far (p := ⟨gb211, 2, none⟩) (Kd.Q_far (p := ⟨gb211, 1, none⟩) (Kd.Q_far (p := ⟨gb211, 0, none⟩) (Kd.Q_types (Kd.Q_types HO204.out BK211.out (by decide)) BK212.out (by decide)) (fun _ hk => hk.1.2) (.int .i64 t199)) (fun _ hk => hk.1.2) (.int .i64 t200)) (fun _ hk => hk.1.2) (.int .i64 t201)) (fun _ hk => hk.1.2) (.slice Ao12 t202.length co12)) (fun _ hk => hk.2) (.int .i64 t205)) (fun _ hk => hk.2) (.int .i64 t206)) (fun _ hk => hk.2) (.int .i64 t207)) (fun _ hk => hk.2) (.slice Ao14 t208.length co14)) (fun _ h_ => h_.1)) (fun _ h_ => h_.1))) hb); have n1_ := Aside0.mk (Kd.Q_below (by (with_reducible repeat (first | apply Kd.Q_alloc | apply Kd.Q_drewN | apply Kd.Q_drew)); exact (Kd.Q_mono (Kd.Q_mono (Kd.Q_far (p := ⟨gb212, 3, none⟩) (Kd.Q_far (p := ⟨gb212, 2, none⟩) (Kd.Q_far (p := ⟨gb212, 1, none⟩) (Kd.Q_far (p := ⟨gb212, 0, none⟩) (Kd.Q_far (p := ⟨gb211, 3, none⟩) (Kd.Q_far (p := ⟨gb211, 2, none⟩) (Kd.Q_far (p := ⟨gb211, 1, none⟩) (Kd.Q_far (p := ⟨gb211, 0, none⟩) (Kd.Q_types (Kd.Q_types HO210.out BK211.out (by decide)) BK212.out (by decide)) (fun _ hk => hk.1.2) (.int .i64 t199)) (fun _ hk => hk.1.2) (.int .i64 t200)) (fun _ hk => hk.1.2) (.int .i64 t201)) (fun _ hk => hk.1.2) (.slice Ao12 t202.length co12)) (fun _ hk => hk.2) (.int .i64 t205)) (fun _ hk => hk.2) (.int .i64 t206)) (fun _ hk => hk.2) (.int .i64 t207)) (fun _ hk => hk.2) (.slice Ao14 t208.length co14)) (fun _ h_ => h_.1)) (fun _ h_ => h_.1))) hb); have n2_ := Aside0.mk (blk_below (g := gb211) (o := .cells #[.int .i64 t199, .int .i64 t200, .int .i64 t201, .slice Ao12 t202.length co12] 40 (0, 0)) (by (with_reducible repeat (first | refine blk_drewN ?_ _ | refine blk_drew ?_ | refine blk_alloc ?_ _)); refine blk_far ?_ NB211_212.out _; (with_reducible repeat (first | refine blk_drewN ?_ _ | refine blk_drew ?_ | refine blk_alloc ?_ _)); refine blk_far ?_ NB211_212.out _; (with_reducible repeat (first | refine blk_drewN ?_ _ | refine blk_drew ?_ | refine blk_alloc ?_ _)); refine blk_far ?_ NB211_212.out _; (with_reducible repeat (first | refine blk_drewN ?_ _ | refine blk_drew ?_ | refine blk_alloc ?_ _)); refine blk_far ?_ NB211_212.out _; (with_reducible repeat (first | refine blk_drewN ?_ _ | refine blk_drew ?_ | refine blk_alloc ?_ _)); refine blk_put (cs := #[.int .i64 t199, .int .i64 t200, .int .i64 t201, .slice none 0 0]) ?_ 3 _ rfl; (with_reducible repeat (first | refine blk_drewN ?_ _ | refine blk_drew ?_ | refine blk_alloc ?_ _)); refine blk_put (cs := #[.int .i64 t199, .int .i64 t200, .int .i64 0, .slice none 0 0]) ?_ 2 _ rfl; (with_reducible repeat (first | refine blk_drewN ?_ _ | refine blk_drew ?_ | refine blk_alloc ?_ _)); refine blk_put (cs := #[.int .i64 t199, .int .i64 0, .int .i64 0, .slice none 0 0]) ?_ 1 _ rfl; (with_reducible repeat (first | refine blk_drewN ?_ _ | refine blk_drew ?_ | refine blk_alloc ?_ _)); refine blk_put (cs := #[.int .i64 0, .int .i64 0, .int .i64 0, .slice none 0 0]) ?_ 0 _ rfl; (with_reducible repeat (first | refine blk_drewN ?_ _ | refine blk_drew ?_ | refine blk_alloc ?_ _)); exact BK211.out) hb); have n3_ := Aside0.mk (blk_below (g := gb212) (o := .cells #[.int .i64 t205, .int .i64 t206, .int .i64 t207, .slice Ao14 t208.length co14] 40 (0, 0)) (by (with_reducible repeat (first | refine blk_drewN ?_ _ | refine blk_drew ?_ | refine blk_alloc ?_ _)); refine blk_put (cs := #[.int .i64 t205, .int .i64 t206, .int .i64 t207, .slice none 0 0]) ?_ 3 _ rfl; (with_reducible repeat (first | refine blk_drewN ?_ _ | refine blk_drew ?_ | refine blk_alloc ?_ _)); refine blk_put (cs := #[.int .i64 t205, .int .i64 t206, .int .i64 0, .slice none 0 0]) ?_ 2 _ rfl; (with_reducible repeat (first | refine blk_drewN ?_ _ | refine blk_drew ?_ | refine blk_alloc ?_ _)); refine blk_put (cs := #[.int .i64 t205, .int .i64 0, .int .i64 0, .slice none 0 0]) ?_ 1 _ rfl; (with_reducible repeat (first | refine blk_drewN ?_ _ | refine blk_drew ?_ | refine blk_alloc ?_ _)); refine blk_put (cs := #[.int .i64 0, .int .i64 0, .int .i64 0, .slice none 0 0]) ?_ 0 _ rfl; (with_reducible repeat (first | refine blk_drewN ?_ _ | refine blk_drew ?_ | refine blk_alloc ?_ _)); refine blk_far ?_ NB212_211.out _; (with_reducible repeat (first | refine blk_drewN ?_ _ | refine blk_drew ?_ | refine blk_alloc ?_ _)); refine blk_far ?_ NB212_211.out _; (with_reducible repeat (first | refine blk_drewN ?_ _ | refine blk_drew ?_ | refine blk_alloc ?_ _)); refine blk_far ?_ NB212_211.out _; (with_reducible repeat (first | refine blk_drewN ?_ _ | refine blk_drew ?_ | refine blk_alloc ?_ _)); refine blk_far ?_ NB212_211.out _; (with_reducible repeat (first | refine blk_drewN ?_ _ | refine blk_drew ?_ | refine blk_alloc ?_ _)); exact BK212.out) hb); have n4_ := Aside0.mk (below_step (by repeat (first | (with_reducible first | exact HB.out | apply below_alloc | apply pw_below_drewN | apply below_drew1 | refine below_set ?_ GE211.out | refine below_set ?_ GE212.out) | exact HB.out)) hb); clear HO204; clear HO210; clear BK211; clear BK212; clear HB; have HO204 := n0_; have HO210 := n1_; have BK211 := n2_; have BK212 := n3_; have HB := n4_; clear n0_ n1_ n2_ n3_ n4_; (try clear hb); (try clear hb2); (try clear hk); (try clear hi); have hcz16_0 : w15.cell? ⟨gb211, 0, none⟩ = some (.int .i64 t199) := (blk_cell BK211.out 0).trans rfl; have hcz16_1 : w15.cell? ⟨gb211, 1, none⟩ = some (.int .i64 t200) := (blk_cell BK211.out 1).trans rfl; have hcz16_2 : w15.cell? ⟨gb211, 2, none⟩ = some (.int .i64 t201) := (blk_cell BK211.out 2).trans rfl; have hcz16_3 : w15.cell? ⟨gb211, 3, none⟩ = some (.slice Ao12 t202.length co12) := (blk_cell BK211.out 3).trans rfl; have hfz16_0 := blk_frozen BK211.out 0; have hfz16_1 := blk_frozen BK211.out 1; have hfz16_2 := blk_frozen BK211.out 2; have hfz16_3 := blk_frozen BK211.out 3; have hcz17_0 : w15.cell? ⟨gb212, 0, none⟩ = some (.int .i64 t205) := (blk_cell BK212.out 0).trans rfl; have hcz17_1 : w15.cell? ⟨gb212, 1, none⟩ = some (.int .i64 t206) := (blk_cell BK212.out 1).trans rfl; have hcz17_2 : w15.cell? ⟨gb212, 2, none⟩ = some (.int .i64 t207) := (blk_cell BK212.out 2).trans rfl; have hcz17_3 : w15.cell? ⟨gb212, 3, none⟩ = some (.slice Ao14 t208.length co14) := (blk_cell BK212.out 3).trans rfl; have hfz17_0 := blk_frozen BK212.out 0; have hfz17_1 := blk_frozen BK212.out 1; have hfz17_2 := blk_frozen BK212.out 2; have hfz17_3 := blk_frozen BK212.out 3) | (go_at_call 37; (with_reducible refine (spec_Agree.calls k t199 t200 t201 _ _ t202 t205 t206 t207 _ _ t208 t216 t217 t218 _ ?side1 ?side2 ?side3 ?side4 A5.out).mono ?_); (case side1 => repeat (first | exact (Kd.Q_reads' HO204.out).2.2 | (with_reducible refine Kd.C_alloc ?_ _) | (with_reducible refine Kd.C_drewN ?_ _) | (with_reducible refine Kd.C_drew ?_))); (case side2 => exact (Kd.Q_reads' HO204.out).2.1); (case side3 => repeat (first | exact (Kd.Q_reads' HO210.out).2.2 | (with_reducible refine Kd.C_alloc ?_ _) | (with_reducible refine Kd.C_drewN ?_ _) | (with_reducible refine Kd.C_drew ?_))); (case side4 => exact (Kd.Q_reads' HO210.out).2.1); rintro e w18 ⟨rfl, hb⟩; have n0_ := Aside0.mk (Kd.Q_below (by (with_reducible repeat (first | apply Kd.Q_alloc | apply Kd.Q_drewN | apply Kd.Q_drew)); exact HO204.out) hb); have n1_ := Aside0.mk (Kd.Q_below (by (with_reducible repeat (first | apply Kd.Q_alloc | apply Kd.Q_drewN | apply Kd.Q_drew)); exact HO210.out) hb); have n2_ := Aside0.mk (blk_below (g := gb211) (o := .cells #[.int .i64 t199, .int .i64 t200, .int .i64 t201, .slice Ao12 t202.length co12] 40 (0, 0)) (by (with_reducible repeat (first | refine blk_drewN ?_ _ | refine blk_drew ?_ | refine blk_alloc ?_ _)); exact BK211.out) hb); have n3_ := Aside0.mk (blk_below (g := gb212) (o := .cells #[.int .i64 t205, .int .i64 t206, .int .i64 t207, .slice Ao14 t208.length co14] 40 (0, 0)) (by (with_reducible repeat (first | refine blk_drewN ?_ _ | refine blk_drew ?_ | refine blk_alloc ?_ _)); exact BK212.out) hb); have n4_ := Aside0.mk (below_step (by repeat (first | (with_reducible first | exact HB.out | apply below_alloc | apply pw_below_drewN | apply below_drew1 | refine below_set ?_ GE211.out | refine below_set ?_ GE212.out) | exact HB.out)) hb); clear HO204; clear HO210; clear BK211; clear BK212; clear HB; have HO204 := n0_; have HO210 := n1_; have BK211 := n2_; have BK212 := n3_; have HB := n4_; clear n0_ n1_ n2_ n3_ n4_; (try clear hb); (try clear hb2); (try clear hk); (try clear hi)))
    repeat (go_quiet (first | (go_at_call 36; (with_reducible refine (spec_DrawAgree.calls k _ _ l0 t199 t200 t201 t202 t205 t206 t207 t208 _ ?side1 ?side2 A3.out).mono ?_); (case side1 => repeat (first | exact HR0.out | (with_reducible refine Kd.C_alloc ?_ _) | (with_reducible refine Kd.C_drewN ?_ _) | (with_reducible refine Kd.C_drew ?_))); (case side2 => exact HC0.out); rintro e w7 ⟨v203, v209, rfl, ho0, ho1, hb⟩; have n0_ := Aside0.mk (Kd.Q_lower ho0 (below_size (by repeat (first | (with_reducible first | exact HB.out | apply below_alloc | apply pw_below_drewN | apply below_drew1) | exact HB.out)))); have n1_ := Aside0.mk (Kd.Q_lower ho1 (below_size (by repeat (first | (with_reducible first | exact HB.out | apply below_alloc | apply pw_below_drewN | apply below_drew1) | exact HB.out)))); have n2_ := Aside0.mk (below_step (by repeat (first | (with_reducible first | exact HB.out | apply below_alloc | apply pw_below_drewN | apply below_drew1) | exact HB.out)) hb); clear HB; have HO204 := n0_; have HO210 := n1_; have HB := n2_; clear n0_ n1_ n2_; (try clear hb); (try clear hb2); (try clear hk); (try clear hi); (try clear ho0); (try clear ho1)) | ((with_reducible refine gate_dst (N := 3) rfl ?_); refine box_event ?hg (N := 3) ?hd (cs := #[.int .i64 0, .int .i64 0, .int .i64 0, .slice none 0 0]) (t := 40) ?hr ?_; (case hd => rfl); (case hg => rfl); (case hr => first | (go_simp; done) | (go_simp; rfl)); intro gb211 hg w8 hbox hb; have n0_ := Aside0.mk (Kd.Q_below (by (with_reducible repeat (first | apply Kd.Q_alloc | apply Kd.Q_drewN | apply Kd.Q_drew)); exact HO204.out) hb); have n1_ := Aside0.mk (Kd.Q_below (by (with_reducible repeat (first | apply Kd.Q_alloc | apply Kd.Q_drewN | apply Kd.Q_drew)); exact HO210.out) hb); have n2_ := Aside0.mk (below_step (by repeat (first | (with_reducible first | exact HB.out | apply below_alloc | apply pw_below_drewN | apply below_drew1) | exact HB.out)) hb); have n3_ := Aside0.mk (hbox); have n4_ := Aside0.mk ((by rw [hg]; exact (below_size (by repeat (first | (with_reducible first | exact HB.out | apply below_alloc | apply pw_below_drewN | apply below_drew1) | exact HB.out))) : w.heap.size ≤ gb211)); have n5_ := Aside0.mk ((by rw [hg]; exact (below_size (by repeat (first | (with_reducible first | exact HB.out | apply below_alloc | apply pw_below_drewN | apply below_drew1) | exact HB.out))) : w.heap.size ≤ gb211)); clear HO204; clear HO210; clear HB; have HO204 := n0_; have HO210 := n1_; have HB := n2_; have BK211 := n3_; have GW211 := n4_; have GE211 := n5_; clear n0_ n1_ n2_ n3_ n4_ n5_; clear hb hbox hg) | ((with_reducible refine gate_dst (N := 4) rfl ?_); refine box_event ?hg (N := 4) ?hd (cs := #[.int .i64 0, .int .i64 0, .int .i64 0, .slice none 0 0]) (t := 40) ?hr ?_; (case hd => rfl); (case hg => rfl); (case hr => first | (go_simp; done) | (go_simp; rfl)); intro gb212 hg w9 hbox hb; have n0_ := Aside0.mk (Kd.Q_below (by (with_reducible repeat (first | apply Kd.Q_alloc | apply Kd.Q_drewN | apply Kd.Q_drew)); exact HO204.out) hb); have n1_ := Aside0.mk (Kd.Q_below (by (with_reducible repeat (first | apply Kd.Q_alloc | apply Kd.Q_drewN | apply Kd.Q_drew)); exact HO210.out) hb); have n2_ := Aside0.mk (blk_below (g := gb211) (o := .cells #[.int .i64 0, .int .i64 0, .int .i64 0, .slice none 0 0] 40 (0, 0)) (by (with_reducible repeat (first | refine blk_drewN ?_ _ | refine blk_drew ?_ | refine blk_alloc ?_ _)); exact BK211.out) hb); have n3_ := Aside0.mk (below_step (by repeat (first | (with_reducible first | exact HB.out | apply below_alloc | apply pw_below_drewN | apply below_drew1 | refine below_set ?_ GE211.out) | exact HB.out)) hb); have n4_ := Aside0.mk (hbox); have n5_ := Aside0.mk ((by rw [hg]; exact (below_size (by repeat (first | (with_reducible first | exact HB.out | apply below_alloc | apply pw_below_drewN | apply below_drew1 | refine below_set ?_ GE211.out) | exact HB.out))) : w.heap.size ≤ gb212)); have n6_ := Aside0.mk ((by rw [hg]; exact (below_size (by repeat (first | (with_reducible first | exact HB.out | apply below_alloc | apply pw_below_drewN | apply below_drew1 | refine below_set ?_ GE211.out) | exact HB.out))) : w.heap.size ≤ gb212)); have n7_ := Aside0.mk ((by rw [hg]; exact Nat.ne_of_lt (blk_lt (g := gb211) (o := .cells #[.int .i64 0, .int .i64 0, .int .i64 0, .slice none 0 0] 40 (0, 0)) (by (with_reducible repeat (first | refine blk_drewN ?_ _ | refine blk_drew ?_ | refine blk_alloc ?_ _)); exact BK211.out)) : gb211 ≠ gb212)); have n8_ := Aside0.mk ((by rw [hg]; exact Nat.ne_of_gt (blk_lt (g := gb211) (o := .cells #[.int .i64 0, .int .i64 0, .int .i64 0, .slice none 0 0] 40 (0, 0)) (by (with_reducible repeat (first | refine blk_drewN ?_ _ | refine blk_drew ?_ | refine blk_alloc ?_ _)); exact BK211.out)) : gb212 ≠ gb211)); clear HO204; clear HO210; clear BK211; clear HB; have HO204 := n0_; have HO210 := n1_; have BK211 := n2_; have HB := n3_; have BK212 := n4_; have GW212 := n5_; have GE212 := n6_; have NB211_212 := n7_; have NB212_211 := n8_; clear n0_ n1_ n2_ n3_ n4_ n5_ n6_ n7_ n8_; clear hb hbox hg; have hnb10 := NB211_212.out; have hnc10 := NB212_211.out; have hcz11_0 : w9.cell? ⟨gb211, 0, none⟩ = some (.int .i64 0) := (blk_cell BK211.out 0).trans rfl; have hcz11_1 : w9.cell? ⟨gb211, 1, none⟩ = some (.int .i64 0) := (blk_cell BK211.out 1).trans rfl; have hcz11_2 : w9.cell? ⟨gb211, 2, none⟩ = some (.int .i64 0) := (blk_cell BK211.out 2).trans rfl; have hcz11_3 : w9.cell? ⟨gb211, 3, none⟩ = some (.slice none 0 0) := (blk_cell BK211.out 3).trans rfl; have hfz11_0 := blk_frozen BK211.out 0; have hfz11_1 := blk_frozen BK211.out 1; have hfz11_2 := blk_frozen BK211.out 2; have hfz11_3 := blk_frozen BK211.out 3; obtain ⟨Ao12, co12, eo12, _⟩ := Kd.Q_slice HO204.out; subst eo12; have hcz13_0 : w9.cell? ⟨gb212, 0, none⟩ = some (.int .i64 0) := (blk_cell BK212.out 0).trans rfl; have hcz13_1 : w9.cell? ⟨gb212, 1, none⟩ = some (.int .i64 0) := (blk_cell BK212.out 1).trans rfl; have hcz13_2 : w9.cell? ⟨gb212, 2, none⟩ = some (.int .i64 0) := (blk_cell BK212.out 2).trans rfl; have hcz13_3 : w9.cell? ⟨gb212, 3, none⟩ = some (.slice none 0 0) := (blk_cell BK212.out 3).trans rfl; have hfz13_0 := blk_frozen BK212.out 0; have hfz13_1 := blk_frozen BK212.out 1; have hfz13_2 := blk_frozen BK212.out 2; have hfz13_3 := blk_frozen BK212.out 3; obtain ⟨Ao14, co14, eo14, _⟩ := Kd.Q_slice HO210.out; subst eo14) | (go_at_call 30; (with_reducible refine (impl_Agree.calls k t199 t200 t201 _ _ t202 t205 t206 t207 _ _ t208 t213 t214 t215 _ ?side1 ?side2 ?side3 ?side4 A4.out).mono ?_); (case side1 => refine (Kd.Q_reads' (e := 3) (base := w.heap.size) (ok := fun k_ => some k_ ≠ (.slice Ao14 t208.length co14 : Value).ownBlock) (n := t202.length) (c := co12) ?_).2.2; exact (by (with_reducible repeat (first | apply Kd.Q_alloc | apply Kd.Q_drewN | apply Kd.Q_drew)); exact (Kd.Q_mono (Kd.Q_mono (Kd.Q_far (p := ⟨gb212, 3, none⟩) (Kd.Q_far (p := ⟨gb212, 2, none⟩) (Kd.Q_far (p := ⟨gb212, 1, none⟩) (Kd.Q_far (p := ⟨gb212, 0, none⟩) (Kd.Q_far (p := ⟨gb211, 3, none⟩) (Kd.Q_far (p := ⟨gb211, 2, none⟩) (Kd.Q_far (p := ⟨gb211, 1, none⟩) (Kd.Q_far (p := ⟨gb211, 0, none⟩) (Kd.Q_types (Kd.Q_types HO204.out BK211.out (by decide)) BK212.out (by decide)) (fun _ hk => hk.1.2) (.int .i64 t199)) (fun _ hk => hk.1.2) (.int .i64 t200)) (fun _ hk => hk.1.2) (.int .i64 t201)) (fun _ hk => hk.1.2) (.slice Ao12 t202.length co12)) (fun _ hk => hk.2) (.int .i64 t205)) (fun _ hk => hk.2) (.int .i64 t206)) (fun _ hk => hk.2) (.int .i64 t207)) (fun _ hk => hk.2) (.slice Ao14 t208.length co14)) (fun _ h_ => h_.1)) (fun _ h_ => h_.1)))); (case side2 => exact (Kd.Q_reads' HO204.out).2.1); (case side3 => refine (Kd.Q_reads' (e := 3) (base := w.heap.size) (ok := fun k_ => some k_ ≠ (.slice Ao12 t202.length co12 : Value).ownBlock) (n := t208.length) (c := co14) ?_).2.2; exact (by (with_reducible repeat (first | apply Kd.Q_alloc | apply Kd.Q_drewN | apply Kd.Q_drew)); exact (Kd.Q_mono (Kd.Q_mono (Kd.Q_far (p := ⟨gb212, 3, none⟩) (Kd.Q_far (p := ⟨gb212, 2, none⟩) (Kd.Q_far (p := ⟨gb212, 1, none⟩) (Kd.Q_far (p := ⟨gb212, 0, none⟩) (Kd.Q_far (p := ⟨gb211, 3, none⟩) (Kd.Q_far (p := ⟨gb211, 2, none⟩) (Kd.Q_far (p := ⟨gb211, 1, none⟩) (Kd.Q_far (p := ⟨gb211, 0, none⟩) (Kd.Q_types (Kd.Q_types HO210.out BK211.out (by decide)) BK212.out (by decide)) (fun _ hk => hk.1.2) (.int .i64 t199)) (fun _ hk => hk.1.2) (.int .i64 t200)) (fun _ hk => hk.1.2) (.int .i64 t201)) (fun _ hk => hk.1.2) (.slice Ao12 t202.length co12)) (fun _ hk => hk.2) (.int .i64 t205)) (fun _ hk => hk.2) (.int .i64 t206)) (fun _ hk => hk.2) (.int .i64 t207)) (fun _ hk => hk.2) (.slice Ao14 t208.length co14)) (fun _ h_ => h_.1)) (fun _ h_ => h_.1)))); (case side4 => exact (Kd.Q_reads' HO210.out).2.1); rintro e w15 ⟨rfl, hb⟩; have n0_ := Aside0.mk (Kd.Q_below (by (with_reducible repeat (first | apply Kd.Q_alloc | apply Kd.Q_drewN | apply Kd.Q_drew)); exact (Kd.Q_mono (Kd.Q_mono (Kd.Q_far (p := ⟨gb212, 3, none⟩) (Kd.Q_far (p := ⟨gb212, 2, none⟩) (Kd.Q_far (p := ⟨gb212, 1, none⟩) (Kd.Q_far (p := ⟨gb212, 0, none⟩) (Kd.Q_far (p := ⟨gb211, 3, none⟩) (Kd.Q_far (p := ⟨gb211, 2, none⟩) (Kd.Q_far (p := ⟨gb211, 1, none⟩) (Kd.Q_far (p := ⟨gb211, 0, none⟩) (Kd.Q_types (Kd.Q_types HO204.out BK211.out (by decide)) BK212.out (by decide)) (fun _ hk => hk.1.2) (.int .i64 t199)) (fun _ hk => hk.1.2) (.int .i64 t200)) (fun _ hk => hk.1.2) (.int .i64 t201)) (fun _ hk => hk.1.2) (.slice Ao12 t202.length co12)) (fun _ hk => hk.2) (.int .i64 t205)) (fun _ hk => hk.2) (.int .i64 t206)) (fun _ hk => hk.2) (.int .i64 t207)) (fun _ hk => hk.2) (.slice Ao14 t208.length co14)) (fun _ h_ => h_.1)) (fun _ h_ => h_.1))) hb); have n1_ := Aside0.mk (Kd.Q_below (by (with_reducible repeat (first | apply Kd.Q_alloc | apply Kd.Q_drewN | apply Kd.Q_drew)); exact (Kd.Q_mono (Kd.Q_mono (Kd.Q_far (p := ⟨gb212, 3, none⟩) (Kd.Q_far (p := ⟨gb212, 2, none⟩) (Kd.Q_far (p := ⟨gb212, 1, none⟩) (Kd.Q_far (p := ⟨gb212, 0, none⟩) (Kd.Q_far (p := ⟨gb211, 3, none⟩) (Kd.Q_far (p := ⟨gb211, 2, none⟩) (Kd.Q_far (p := ⟨gb211, 1, none⟩) (Kd.Q_far (p := ⟨gb211, 0, none⟩) (Kd.Q_types (Kd.Q_types HO210.out BK211.out (by decide)) BK212.out (by decide)) (fun _ hk => hk.1.2) (.int .i64 t199)) (fun _ hk => hk.1.2) (.int .i64 t200)) (fun _ hk => hk.1.2) (.int .i64 t201)) (fun _ hk => hk.1.2) (.slice Ao12 t202.length co12)) (fun _ hk => hk.2) (.int .i64 t205)) (fun _ hk => hk.2) (.int .i64 t206)) (fun _ hk => hk.2) (.int .i64 t207)) (fun _ hk => hk.2) (.slice Ao14 t208.length co14)) (fun _ h_ => h_.1)) (fun _ h_ => h_.1))) hb); have n2_ := Aside0.mk (blk_below (g := gb211) (o := .cells #[.int .i64 t199, .int .i64 t200, .int .i64 t201, .slice Ao12 t202.length co12] 40 (0, 0)) (by (with_reducible repeat (first | refine blk_drewN ?_ _ | refine blk_drew ?_ | refine blk_alloc ?_ _)); refine blk_far ?_ NB211_212.out _; (with_reducible repeat (first | refine blk_drewN ?_ _ | refine blk_drew ?_ | refine blk_alloc ?_ _)); refine blk_far ?_ NB211_212.out _; (with_reducible repeat (first | refine blk_drewN ?_ _ | refine blk_drew ?_ | refine blk_alloc ?_ _)); refine blk_far ?_ NB211_212.out _; (with_reducible repeat (first | refine blk_drewN ?_ _ | refine blk_drew ?_ | refine blk_alloc ?_ _)); refine blk_far ?_ NB211_212.out _; (with_reducible repeat (first | refine blk_drewN ?_ _ | refine blk_drew ?_ | refine blk_alloc ?_ _)); refine blk_put (cs := #[.int .i64 t199, .int .i64 t200, .int .i64 t201, .slice none 0 0]) ?_ 3 _ rfl; (with_reducible repeat (first | refine blk_drewN ?_ _ | refine blk_drew ?_ | refine blk_alloc ?_ _)); refine blk_put (cs := #[.int .i64 t199, .int .i64 t200, .int .i64 0, .slice none 0 0]) ?_ 2 _ rfl; (with_reducible repeat (first | refine blk_drewN ?_ _ | refine blk_drew ?_ | refine blk_alloc ?_ _)); refine blk_put (cs := #[.int .i64 t199, .int .i64 0, .int .i64 0, .slice none 0 0]) ?_ 1 _ rfl; (with_reducible repeat (first | refine blk_drewN ?_ _ | refine blk_drew ?_ | refine blk_alloc ?_ _)); refine blk_put (cs := #[.int .i64 0, .int .i64 0, .int .i64 0, .slice none 0 0]) ?_ 0 _ rfl; (with_reducible repeat (first | refine blk_drewN ?_ _ | refine blk_drew ?_ | refine blk_alloc ?_ _)); exact BK211.out) hb); have n3_ := Aside0.mk (blk_below (g := gb212) (o := .cells #[.int .i64 t205, .int .i64 t206, .int .i64 t207, .slice Ao14 t208.length co14] 40 (0, 0)) (by (with_reducible repeat (first | refine blk_drewN ?_ _ | refine blk_drew ?_ | refine blk_alloc ?_ _)); refine blk_put (cs := #[.int .i64 t205, .int .i64 t206, .int .i64 t207, .slice none 0 0]) ?_ 3 _ rfl; (with_reducible repeat (first | refine blk_drewN ?_ _ | refine blk_drew ?_ | refine blk_alloc ?_ _)); refine blk_put (cs := #[.int .i64 t205, .int .i64 t206, .int .i64 0, .slice none 0 0]) ?_ 2 _ rfl; (with_reducible repeat (first | refine blk_drewN ?_ _ | refine blk_drew ?_ | refine blk_alloc ?_ _)); refine blk_put (cs := #[.int .i64 t205, .int .i64 0, .int .i64 0, .slice none 0 0]) ?_ 1 _ rfl; (with_reducible repeat (first | refine blk_drewN ?_ _ | refine blk_drew ?_ | refine blk_alloc ?_ _)); refine blk_put (cs := #[.int .i64 0, .int .i64 0, .int .i64 0, .slice none 0 0]) ?_ 0 _ rfl; (with_reducible repeat (first | refine blk_drewN ?_ _ | refine blk_drew ?_ | refine blk_alloc ?_ _)); refine blk_far ?_ NB212_211.out _; (with_reducible repeat (first | refine blk_drewN ?_ _ | refine blk_drew ?_ | refine blk_alloc ?_ _)); refine blk_far ?_ NB212_211.out _; (with_reducible repeat (first | refine blk_drewN ?_ _ | refine blk_drew ?_ | refine blk_alloc ?_ _)); refine blk_far ?_ NB212_211.out _; (with_reducible repeat (first | refine blk_drewN ?_ _ | refine blk_drew ?_ | refine blk_alloc ?_ _)); refine blk_far ?_ NB212_211.out _; (with_reducible repeat (first | refine blk_drewN ?_ _ | refine blk_drew ?_ | refine blk_alloc ?_ _)); exact BK212.out) hb); have n4_ := Aside0.mk (below_step (by repeat (first | (with_reducible first | exact HB.out | apply below_alloc | apply pw_below_drewN | apply below_drew1 | refine below_set ?_ GE211.out | refine below_set ?_ GE212.out) | exact HB.out)) hb); clear HO204; clear HO210; clear BK211; clear BK212; clear HB; have HO204 := n0_; have HO210 := n1_; have BK211 := n2_; have BK212 := n3_; have HB := n4_; clear n0_ n1_ n2_ n3_ n4_; (try clear hb); (try clear hb2); (try clear hk); (try clear hi); have hcz16_0 : w15.cell? ⟨gb211, 0, none⟩ = some (.int .i64 t199) := (blk_cell BK211.out 0).trans rfl; have hcz16_1 : w15.cell? ⟨gb211, 1, none⟩ = some (.int .i64 t200) := (blk_cell BK211.out 1).trans rfl; have hcz16_2 : w15.cell? ⟨gb211, 2, none⟩ = some (.int .i64 t201) := (blk_cell BK211.out 2).trans rfl; have hcz16_3 : w15.cell? ⟨gb211, 3, none⟩ = some (.slice Ao12 t202.length co12) := (blk_cell BK211.out 3).trans rfl; have hfz16_0 := blk_frozen BK211.out 0; have hfz16_1 := blk_frozen BK211.out 1; have hfz16_2 := blk_frozen BK211.out 2; have hfz16_3 := blk_frozen BK211.out 3; have hcz17_0 : w15.cell? ⟨gb212, 0, none⟩ = some (.int .i64 t205) := (blk_cell BK212.out 0).trans rfl; have hcz17_1 : w15.cell? ⟨gb212, 1, none⟩ = some (.int .i64 t206) := (blk_cell BK212.out 1).trans rfl; have hcz17_2 : w15.cell? ⟨gb212, 2, none⟩ = some (.int .i64 t207) := (blk_cell BK212.out 2).trans rfl; have hcz17_3 : w15.cell? ⟨gb212, 3, none⟩ = some (.slice Ao14 t208.length co14) := (blk_cell BK212.out 3).trans rfl; have hfz17_0 := blk_frozen BK212.out 0; have hfz17_1 := blk_frozen BK212.out 1; have hfz17_2 := blk_frozen BK212.out 2; have hfz17_3 := blk_frozen BK212.out 3) | (go_at_call 37; (with_reducible refine (spec_Agree.calls k t199 t200 t201 _ _ t202 t205 t206 t207 _ _ t208 t216 t217 t218 _ ?side1 ?side2 ?side3 ?side4 A5.out).mono ?_); (case side1 => repeat (first | exact (Kd.Q_reads' HO204.out).2.2 | (with_reducible refine Kd.C_alloc ?_ _) | (with_reducible refine Kd.C_drewN ?_ _) | (with_reducible refine Kd.C_drew ?_))); (case side2 => exact (Kd.Q_reads' HO204.out).2.1); (case side3 => repeat (first | exact (Kd.Q_reads' HO210.out).2.2 | (with_reducible refine Kd.C_alloc ?_ _) | (with_reducible refine Kd.C_drewN ?_ _) | (with_reducible refine Kd.C_drew ?_))); (case side4 => exact (Kd.Q_reads' HO210.out).2.1); rintro e w18 ⟨rfl, hb⟩; have n0_ := Aside0.mk (Kd.Q_below (by (with_reducible repeat (first | apply Kd.Q_alloc | apply Kd.Q_drewN | apply Kd.Q_drew)); exact HO204.out) hb); have n1_ := Aside0.mk (Kd.Q_below (by (with_reducible repeat (first | apply Kd.Q_alloc | apply Kd.Q_drewN | apply Kd.Q_drew)); exact HO210.out) hb); have n2_ := Aside0.mk (blk_below (g := gb211) (o := .cells #[.int .i64 t199, .int .i64 t200, .int .i64 t201, .slice Ao12 t202.length co12] 40 (0, 0)) (by (with_reducible repeat (first | refine blk_drewN ?_ _ | refine blk_drew ?_ | refine blk_alloc ?_ _)); exact BK211.out) hb); have n3_ := Aside0.mk (blk_below (g := gb212) (o := .cells #[.int .i64 t205, .int .i64 t206, .int .i64 t207, .slice Ao14 t208.length co14] 40 (0, 0)) (by (with_reducible repeat (first | refine blk_drewN ?_ _ | refine blk_drew ?_ | refine blk_alloc ?_ _)); exact BK212.out) hb); have n4_ := Aside0.mk (below_step (by repeat (first | (with_reducible first | exact HB.out | apply below_alloc | apply pw_below_drewN | apply below_drew1 | refine below_set ?_ GE211.out | refine below_set ?_ GE212.out) | exact HB.out)) hb); clear HO204; clear HO210; clear BK211; clear BK212; clear HB; have HO204 := n0_; have HO210 := n1_; have BK211 := n2_; have BK212 := n3_; have HB := n4_; clear n0_ n1_ n2_ n3_ n4_; (try clear hb); (try clear hb2); (try clear hk); (try clear hi))); go_upto_region 6 with (first | (go_at_call 36; (with_reducible refine (spec_DrawAgree.calls k _ _ l0 t199 t200 t201 t202 t205 t206 t207 t208 _ ?side1 ?side2 A3.out).mono ?_); (case side1 => repeat (first | exact HR0.out | (with_reducible refine Kd.C_alloc ?_ _) | (with_reducible refine Kd.C_drewN ?_ _) | (with_reducible refine Kd.C_drew ?_))); (case side2 => exact HC0.out); rintro e w7 ⟨v203, v209, rfl, ho0, ho1, hb⟩; have n0_ := Aside0.mk (Kd.Q_lower ho0 (below_size (by repeat (first | (with_reducible first | exact HB.out | apply below_alloc | apply pw_below_drewN | apply below_drew1) | exact HB.out)))); have n1_ := Aside0.mk (Kd.Q_lower ho1 (below_size (by repeat (first | (with_reducible first | exact HB.out | apply below_alloc | apply pw_below_drewN | apply below_drew1) | exact HB.out)))); have n2_ := Aside0.mk (below_step (by repeat (first | (with_reducible first | exact HB.out | apply below_alloc | apply pw_below_drewN | apply below_drew1) | exact HB.out)) hb); clear HB; have HO204 := n0_; have HO210 := n1_; have HB := n2_; clear n0_ n1_ n2_; (try clear hb); (try clear hb2); (try clear hk); (try clear hi); (try clear ho0); (try clear ho1)) | ((with_reducible refine gate_dst (N := 3) rfl ?_); refine box_event ?hg (N := 3) ?hd (cs := #[.int .i64 0, .int .i64 0, .int .i64 0, .slice none 0 0]) (t := 40) ?hr ?_; (case hd => rfl); (case hg => rfl); (case hr => first | (go_simp; done) | (go_simp; rfl)); intro gb211 hg w8 hbox hb; have n0_ := Aside0.mk (Kd.Q_below (by (with_reducible repeat (first | apply Kd.Q_alloc | apply Kd.Q_drewN | apply Kd.Q_drew)); exact HO204.out) hb); have n1_ := Aside0.mk (Kd.Q_below (by (with_reducible repeat (first | apply Kd.Q_alloc | apply Kd.Q_drewN | apply Kd.Q_drew)); exact HO210.out) hb); have n2_ := Aside0.mk (below_step (by repeat (first | (with_reducible first | exact HB.out | apply below_alloc | apply pw_below_drewN | apply below_drew1) | exact HB.out)) hb); have n3_ := Aside0.mk (hbox); have n4_ := Aside0.mk ((by rw [hg]; exact (below_size (by repeat (first | (with_reducible first | exact HB.out | apply below_alloc | apply pw_below_drewN | apply below_drew1) | exact HB.out))) : w.heap.size ≤ gb211)); have n5_ := Aside0.mk ((by rw [hg]; exact (below_size (by repeat (first | (with_reducible first | exact HB.out | apply below_alloc | apply pw_below_drewN | apply below_drew1) | exact HB.out))) : w.heap.size ≤ gb211)); clear HO204; clear HO210; clear HB; have HO204 := n0_; have HO210 := n1_; have HB := n2_; have BK211 := n3_; have GW211 := n4_; have GE211 := n5_; clear n0_ n1_ n2_ n3_ n4_ n5_; clear hb hbox hg) | ((with_reducible refine gate_dst (N := 4) rfl ?_); refine box_event ?hg (N := 4) ?hd (cs := #[.int .i64 0, .int .i64 0, .int .i64 0, .slice none 0 0]) (t := 40) ?hr ?_; (case hd => rfl); (case hg => rfl); (case hr => first | (go_simp; done) | (go_simp; rfl)); intro gb212 hg w9 hbox hb; have n0_ := Aside0.mk (Kd.Q_below (by (with_reducible repeat (first | apply Kd.Q_alloc | apply Kd.Q_drewN | apply Kd.Q_drew)); exact HO204.out) hb); have n1_ := Aside0.mk (Kd.Q_below (by (with_reducible repeat (first | apply Kd.Q_alloc | apply Kd.Q_drewN | apply Kd.Q_drew)); exact HO210.out) hb); have n2_ := Aside0.mk (blk_below (g := gb211) (o := .cells #[.int .i64 0, .int .i64 0, .int .i64 0, .slice none 0 0] 40 (0, 0)) (by (with_reducible repeat (first | refine blk_drewN ?_ _ | refine blk_drew ?_ | refine blk_alloc ?_ _)); exact BK211.out) hb); have n3_ := Aside0.mk (below_step (by repeat (first | (with_reducible first | exact HB.out | apply below_alloc | apply pw_below_drewN | apply below_drew1 | refine below_set ?_ GE211.out) | exact HB.out)) hb); have n4_ := Aside0.mk (hbox); have n5_ := Aside0.mk ((by rw [hg]; exact (below_size (by repeat (first | (with_reducible first | exact HB.out | apply below_alloc | apply pw_below_drewN | apply below_drew1 | refine below_set ?_ GE211.out) | exact HB.out))) : w.heap.size ≤ gb212)); have n6_ := Aside0.mk ((by rw [hg]; exact (below_size (by repeat (first | (with_reducible first | exact HB.out | apply below_alloc | apply pw_below_drewN | apply below_drew1 | refine below_set ?_ GE211.out) | exact HB.out))) : w.heap.size ≤ gb212)); have n7_ := Aside0.mk ((by rw [hg]; exact Nat.ne_of_lt (blk_lt (g := gb211) (o := .cells #[.int .i64 0, .int .i64 0, .int .i64 0, .slice none 0 0] 40 (0, 0)) (by (with_reducible repeat (first | refine blk_drewN ?_ _ | refine blk_drew ?_ | refine blk_alloc ?_ _)); exact BK211.out)) : gb211 ≠ gb212)); have n8_ := Aside0.mk ((by rw [hg]; exact Nat.ne_of_gt (blk_lt (g := gb211) (o := .cells #[.int .i64 0, .int .i64 0, .int .i64 0, .slice none 0 0] 40 (0, 0)) (by (with_reducible repeat (first | refine blk_drewN ?_ _ | refine blk_drew ?_ | refine blk_alloc ?_ _)); exact BK211.out)) : gb212 ≠ gb211)); clear HO204; clear HO210; clear BK211; clear HB; have HO204 := n0_; have HO210 := n1_; have BK211 := n2_; have HB := n3_; have BK212 := n4_; have GW212 := n5_; have GE212 := n6_; have NB211_212 := n7_; have NB212_211 := n8_; clear n0_ n1_ n2_ n3_ n4_ n5_ n6_ n7_ n8_; clear hb hbox hg; have hnb10 := NB211_212.out; have hnc10 := NB212_211.out; have hcz11_0 : w9.cell? ⟨gb211, 0, none⟩ = some (.int .i64 0) := (blk_cell BK211.out 0).trans rfl; have hcz11_1 : w9.cell? ⟨gb211, 1, none⟩ = some (.int .i64 0) := (blk_cell BK211.out 1).trans rfl; have hcz11_2 : w9.cell? ⟨gb211, 2, none⟩ = some (.int .i64 0) := (blk_cell BK211.out 2).trans rfl; have hcz11_3 : w9.cell? ⟨gb211, 3, none⟩ = some (.slice none 0 0) := (blk_cell BK211.out 3).trans rfl; have hfz11_0 := blk_frozen BK211.out 0; have hfz11_1 := blk_frozen BK211.out 1; have hfz11_2 := blk_frozen BK211.out 2; have hfz11_3 := blk_frozen BK211.out 3; obtain ⟨Ao12, co12, eo12, _⟩ := Kd.Q_slice HO204.out; subst eo12; have hcz13_0 : w9.cell? ⟨gb212, 0, none⟩ = some (.int .i64 0) := (blk_cell BK212.out 0).trans rfl; have hcz13_1 : w9.cell? ⟨gb212, 1, none⟩ = some (.int .i64 0) := (blk_cell BK212.out 1).trans rfl; have hcz13_2 : w9.cell? ⟨gb212, 2, none⟩ = some (.int .i64 0) := (blk_cell BK212.out 2).trans rfl; have hcz13_3 : w9.cell? ⟨gb212, 3, none⟩ = some (.slice none 0 0) := (blk_cell BK212.out 3).trans rfl; have hfz13_0 := blk_frozen BK212.out 0; have hfz13_1 := blk_frozen BK212.out 1; have hfz13_2 := blk_frozen BK212.out 2; have hfz13_3 := blk_frozen BK212.out 3; obtain ⟨Ao14, co14, eo14, _⟩ := Kd.Q_slice HO210.out; subst eo14) | (go_at_call 30; (with_reducible refine (impl_Agree.calls k t199 t200 t201 _ _ t202 t205 t206 t207 _ _ t208 t213 t214 t215 _ ?side1 ?side2 ?side3 ?side4 A4.out).mono ?_); (case side1 => refine (Kd.Q_reads' (e := 3) (base := w.heap.size) (ok := fun k_ => some k_ ≠ (.slice Ao14 t208.length co14 : Value).ownBlock) (n := t202.length) (c := co12) ?_).2.2; exact (by (with_reducible repeat (first | apply Kd.Q_alloc | apply Kd.Q_drewN | apply Kd.Q_drew)); exact (Kd.Q_mono (Kd.Q_mono (Kd.Q_far (p := ⟨gb212, 3, none⟩) (Kd.Q_far (p := ⟨gb212, 2, none⟩) (Kd.Q_far (p := ⟨gb212, 1, none⟩) (Kd.Q_far (p := ⟨gb212, 0, none⟩) (Kd.Q_far (p := ⟨gb211, 3, none⟩) (Kd.Q_far (p := ⟨gb211, 2, none⟩) (Kd.Q_far (p := ⟨gb211, 1, none⟩) (Kd.Q_far (p := ⟨gb211, 0, none⟩) (Kd.Q_types (Kd.Q_types HO204.out BK211.out (by decide)) BK212.out (by decide)) (fun _ hk => hk.1.2) (.int .i64 t199)) (fun _ hk => hk.1.2) (.int .i64 t200)) (fun _ hk => hk.1.2) (.int .i64 t201)) (fun _ hk => hk.1.2) (.slice Ao12 t202.length co12)) (fun _ hk => hk.2) (.int .i64 t205)) (fun _ hk => hk.2) (.int .i64 t206)) (fun _ hk => hk.2) (.int .i64 t207)) (fun _ hk => hk.2) (.slice Ao14 t208.length co14)) (fun _ h_ => h_.1)) (fun _ h_ => h_.1)))); (case side2 => exact (Kd.Q_reads' HO204.out).2.1); (case side3 => refine (Kd.Q_reads' (e := 3) (base := w.heap.size) (ok := fun k_ => some k_ ≠ (.slice Ao12 t202.length co12 : Value).ownBlock) (n := t208.length) (c := co14) ?_).2.2; exact (by (with_reducible repeat (first | apply Kd.Q_alloc | apply Kd.Q_drewN | apply Kd.Q_drew)); exact (Kd.Q_mono (Kd.Q_mono (Kd.Q_far (p := ⟨gb212, 3, none⟩) (Kd.Q_far (p := ⟨gb212, 2, none⟩) (Kd.Q_far (p := ⟨gb212, 1, none⟩) (Kd.Q_far (p := ⟨gb212, 0, none⟩) (Kd.Q_far (p := ⟨gb211, 3, none⟩) (Kd.Q_far (p := ⟨gb211, 2, none⟩) (Kd.Q_far (p := ⟨gb211, 1, none⟩) (Kd.Q_far (p := ⟨gb211, 0, none⟩) (Kd.Q_types (Kd.Q_types HO210.out BK211.out (by decide)) BK212.out (by decide)) (fun _ hk => hk.1.2) (.int .i64 t199)) (fun _ hk => hk.1.2) (.int .i64 t200)) (fun _ hk => hk.1.2) (.int .i64 t201)) (fun _ hk => hk.1.2) (.slice Ao12 t202.length co12)) (fun _ hk => hk.2) (.int .i64 t205)) (fun _ hk => hk.2) (.int .i64 t206)) (fun _ hk => hk.2) (.int .i64 t207)) (fun _ hk => hk.2) (.slice Ao14 t208.length co14)) (fun _ h_ => h_.1)) (fun _ h_ => h_.1)))); (case side4 => exact (Kd.Q_reads' HO210.out).2.1); rintro e w15 ⟨rfl, hb⟩; have n0_ := Aside0.mk (Kd.Q_below (by (with_reducible repeat (first | apply Kd.Q_alloc | apply Kd.Q_drewN | apply Kd.Q_drew)); exact (Kd.Q_mono (Kd.Q_mono (Kd.Q_far (p := ⟨gb212, 3, none⟩) (Kd.Q_far (p := ⟨gb212, 2, none⟩) (Kd.Q_far (p := ⟨gb212, 1, none⟩) (Kd.Q_far (p := ⟨gb212, 0, none⟩) (Kd.Q_far (p := ⟨gb211, 3, none⟩) (Kd.Q_far (p := ⟨gb211, 2, none⟩) (Kd.Q_far (p := ⟨gb211, 1, none⟩) (Kd.Q_far (p := ⟨gb211, 0, none⟩) (Kd.Q_types (Kd.Q_types HO204.out BK211.out (by decide)) BK212.out (by decide)) (fun _ hk => hk.1.2) (.int .i64 t199)) (fun _ hk => hk.1.2) (.int .i64 t200)) (fun _ hk => hk.1.2) (.int .i64 t201)) (fun _ hk => hk.1.2) (.slice Ao12 t202.length co12)) (fun _ hk => hk.2) (.int .i64 t205)) (fun _ hk => hk.2) (.int .i64 t206)) (fun _ hk => hk.2) (.int .i64 t207)) (fun _ hk => hk.2) (.slice Ao14 t208.length co14)) (fun _ h_ => h_.1)) (fun _ h_ => h_.1))) hb); have n1_ := Aside0.mk (Kd.Q_below (by (with_reducible repeat (first | apply Kd.Q_alloc | apply Kd.Q_drewN | apply Kd.Q_drew)); exact (Kd.Q_mono (Kd.Q_mono (Kd.Q_far (p := ⟨gb212, 3, none⟩) (Kd.Q_far (p := ⟨gb212, 2, none⟩) (Kd.Q_far (p := ⟨gb212, 1, none⟩) (Kd.Q_far (p := ⟨gb212, 0, none⟩) (Kd.Q_far (p := ⟨gb211, 3, none⟩) (Kd.Q_far (p := ⟨gb211, 2, none⟩) (Kd.Q_far (p := ⟨gb211, 1, none⟩) (Kd.Q_far (p := ⟨gb211, 0, none⟩) (Kd.Q_types (Kd.Q_types HO210.out BK211.out (by decide)) BK212.out (by decide)) (fun _ hk => hk.1.2) (.int .i64 t199)) (fun _ hk => hk.1.2) (.int .i64 t200)) (fun _ hk => hk.1.2) (.int .i64 t201)) (fun _ hk => hk.1.2) (.slice Ao12 t202.length co12)) (fun _ hk => hk.2) (.int .i64 t205)) (fun _ hk => hk.2) (.int .i64 t206)) (fun _ hk => hk.2) (.int .i64 t207)) (fun _ hk => hk.2) (.slice Ao14 t208.length co14)) (fun _ h_ => h_.1)) (fun _ h_ => h_.1))) hb); have n2_ := Aside0.mk (blk_below (g := gb211) (o := .cells #[.int .i64 t199, .int .i64 t200, .int .i64 t201, .slice Ao12 t202.length co12] 40 (0, 0)) (by (with_reducible repeat (first | refine blk_drewN ?_ _ | refine blk_drew ?_ | refine blk_alloc ?_ _)); refine blk_far ?_ NB211_212.out _; (with_reducible repeat (first | refine blk_drewN ?_ _ | refine blk_drew ?_ | refine blk_alloc ?_ _)); refine blk_far ?_ NB211_212.out _; (with_reducible repeat (first | refine blk_drewN ?_ _ | refine blk_drew ?_ | refine blk_alloc ?_ _)); refine blk_far ?_ NB211_212.out _; (with_reducible repeat (first | refine blk_drewN ?_ _ | refine blk_drew ?_ | refine blk_alloc ?_ _)); refine blk_far ?_ NB211_212.out _; (with_reducible repeat (first | refine blk_drewN ?_ _ | refine blk_drew ?_ | refine blk_alloc ?_ _)); refine blk_put (cs := #[.int .i64 t199, .int .i64 t200, .int .i64 t201, .slice none 0 0]) ?_ 3 _ rfl; (with_reducible repeat (first | refine blk_drewN ?_ _ | refine blk_drew ?_ | refine blk_alloc ?_ _)); refine blk_put (cs := #[.int .i64 t199, .int .i64 t200, .int .i64 0, .slice none 0 0]) ?_ 2 _ rfl; (with_reducible repeat (first | refine blk_drewN ?_ _ | refine blk_drew ?_ | refine blk_alloc ?_ _)); refine blk_put (cs := #[.int .i64 t199, .int .i64 0, .int .i64 0, .slice none 0 0]) ?_ 1 _ rfl; (with_reducible repeat (first | refine blk_drewN ?_ _ | refine blk_drew ?_ | refine blk_alloc ?_ _)); refine blk_put (cs := #[.int .i64 0, .int .i64 0, .int .i64 0, .slice none 0 0]) ?_ 0 _ rfl; (with_reducible repeat (first | refine blk_drewN ?_ _ | refine blk_drew ?_ | refine blk_alloc ?_ _)); exact BK211.out) hb); have n3_ := Aside0.mk (blk_below (g := gb212) (o := .cells #[.int .i64 t205, .int .i64 t206, .int .i64 t207, .slice Ao14 t208.length co14] 40 (0, 0)) (by (with_reducible repeat (first | refine blk_drewN ?_ _ | refine blk_drew ?_ | refine blk_alloc ?_ _)); refine blk_put (cs := #[.int .i64 t205, .int .i64 t206, .int .i64 t207, .slice none 0 0]) ?_ 3 _ rfl; (with_reducible repeat (first | refine blk_drewN ?_ _ | refine blk_drew ?_ | refine blk_alloc ?_ _)); refine blk_put (cs := #[.int .i64 t205, .int .i64 t206, .int .i64 0, .slice none 0 0]) ?_ 2 _ rfl; (with_reducible repeat (first | refine blk_drewN ?_ _ | refine blk_drew ?_ | refine blk_alloc ?_ _)); refine blk_put (cs := #[.int .i64 t205, .int .i64 0, .int .i64 0, .slice none 0 0]) ?_ 1 _ rfl; (with_reducible repeat (first | refine blk_drewN ?_ _ | refine blk_drew ?_ | refine blk_alloc ?_ _)); refine blk_put (cs := #[.int .i64 0, .int .i64 0, .int .i64 0, .slice none 0 0]) ?_ 0 _ rfl; (with_reducible repeat (first | refine blk_drewN ?_ _ | refine blk_drew ?_ | refine blk_alloc ?_ _)); refine blk_far ?_ NB212_211.out _; (with_reducible repeat (first | refine blk_drewN ?_ _ | refine blk_drew ?_ | refine blk_alloc ?_ _)); refine blk_far ?_ NB212_211.out _; (with_reducible repeat (first | refine blk_drewN ?_ _ | refine blk_drew ?_ | refine blk_alloc ?_ _)); refine blk_far ?_ NB212_211.out _; (with_reducible repeat (first | refine blk_drewN ?_ _ | refine blk_drew ?_ | refine blk_alloc ?_ _)); refine blk_far ?_ NB212_211.out _; (with_reducible repeat (first | refine blk_drewN ?_ _ | refine blk_drew ?_ | refine blk_alloc ?_ _)); exact BK212.out) hb); have n4_ := Aside0.mk (below_step (by repeat (first | (with_reducible first | exact HB.out | apply below_alloc | apply pw_below_drewN | apply below_drew1 | refine below_set ?_ GE211.out | refine below_set ?_ GE212.out) | exact HB.out)) hb); clear HO204; clear HO210; clear BK211; clear BK212; clear HB; have HO204 := n0_; have HO210 := n1_; have BK211 := n2_; have BK212 := n3_; have HB := n4_; clear n0_ n1_ n2_ n3_ n4_; (try clear hb); (try clear hb2); (try clear hk); (try clear hi); have hcz16_0 : w15.cell? ⟨gb211, 0, none⟩ = some (.int .i64 t199) := (blk_cell BK211.out 0).trans rfl; have hcz16_1 : w15.cell? ⟨gb211, 1, none⟩ = some (.int .i64 t200) := (blk_cell BK211.out 1).trans rfl; have hcz16_2 : w15.cell? ⟨gb211, 2, none⟩ = some (.int .i64 t201) := (blk_cell BK211.out 2).trans rfl; have hcz16_3 : w15.cell? ⟨gb211, 3, none⟩ = some (.slice Ao12 t202.length co12) := (blk_cell BK211.out 3).trans rfl; have hfz16_0 := blk_frozen BK211.out 0; have hfz16_1 := blk_frozen BK211.out 1; have hfz16_2 := blk_frozen BK211.out 2; have hfz16_3 := blk_frozen BK211.out 3; have hcz17_0 : w15.cell? ⟨gb212, 0, none⟩ = some (.int .i64 t205) := (blk_cell BK212.out 0).trans rfl; have hcz17_1 : w15.cell? ⟨gb212, 1, none⟩ = some (.int .i64 t206) := (blk_cell BK212.out 1).trans rfl; have hcz17_2 : w15.cell? ⟨gb212, 2, none⟩ = some (.int .i64 t207) := (blk_cell BK212.out 2).trans rfl; have hcz17_3 : w15.cell? ⟨gb212, 3, none⟩ = some (.slice Ao14 t208.length co14) := (blk_cell BK212.out 3).trans rfl; have hfz17_0 := blk_frozen BK212.out 0; have hfz17_1 := blk_frozen BK212.out 1; have hfz17_2 := blk_frozen BK212.out 2; have hfz17_3 := blk_frozen BK212.out 3) | (go_at_call 37; (with_reducible refine (spec_Agree.calls k t199 t200 t201 _ _ t202 t205 t206 t207 _ _ t208 t216 t217 t218 _ ?side1 ?side2 ?side3 ?side4 A5.out).mono ?_); (case side1 => repeat (first | exact (Kd.Q_reads' HO204.out).2.2 | (with_reducible refine Kd.C_alloc ?_ _) | (with_reducible refine Kd.C_drewN ?_ _) | (with_reducible refine Kd.C_drew ?_))); (case side2 => exact (Kd.Q_reads' HO204.out).2.1); (case side3 => repeat (first | exact (Kd.Q_reads' HO210.out).2.2 | (with_reducible refine Kd.C_alloc ?_ _) | (with_reducible refine Kd.C_drewN ?_ _) | (with_reducible refine Kd.C_drew ?_))); (case side4 => exact (Kd.Q_reads' HO210.out).2.1); rintro e w18 ⟨rfl, hb⟩; have n0_ := Aside0.mk (Kd.Q_below (by (with_reducible repeat (first | apply Kd.Q_alloc | apply Kd.Q_drewN | apply Kd.Q_drew)); exact HO204.out) hb); have n1_ := Aside0.mk (Kd.Q_below (by (with_reducible repeat (first | apply Kd.Q_alloc | apply Kd.Q_drewN | apply Kd.Q_drew)); exact HO210.out) hb); have n2_ := Aside0.mk (blk_below (g := gb211) (o := .cells #[.int .i64 t199, .int .i64 t200, .int .i64 t201, .slice Ao12 t202.length co12] 40 (0, 0)) (by (with_reducible repeat (first | refine blk_drewN ?_ _ | refine blk_drew ?_ | refine blk_alloc ?_ _)); exact BK211.out) hb); have n3_ := Aside0.mk (blk_below (g := gb212) (o := .cells #[.int .i64 t205, .int .i64 t206, .int .i64 t207, .slice Ao14 t208.length co14] 40 (0, 0)) (by (with_reducible repeat (first | refine blk_drewN ?_ _ | refine blk_drew ?_ | refine blk_alloc ?_ _)); exact BK212.out) hb); have n4_ := Aside0.mk (below_step (by repeat (first | (with_reducible first | exact HB.out | apply below_alloc | apply pw_below_drewN | apply below_drew1 | refine below_set ?_ GE211.out | refine below_set ?_ GE212.out) | exact HB.out)) hb); clear HO204; clear HO210; clear BK211; clear BK212; clear HB; have HO204 := n0_; have HO210 := n1_; have BK211 := n2_; have BK212 := n3_; have HB := n4_; clear n0_ n1_ n2_ n3_ n4_; (try clear hb); (try clear hb2); (try clear hk); (try clear hi))))
    (try simp only [Act.put, List.setIfInBounds_toArray, List.set_cons_zero, List.set_cons_succ])
    go_cut [54] (fun v54 wc => ∃ (kq : Nat) (x54_5 : Bool), v54 = .bool x54_5 ∧ Aside0 (laws_FnAgree.j0 kq t213 t214 t215 t216 t217 t218 x54_5 t199 t200 t201 t202 t205 t206 t207 t208 = some r) ∧ Aside0 (kq ≤ k) ∧ Aside0 (Kd.Q (Kd.int .i64) 3 wc w.heap.size (fun k_ => some k_ ≠ ((.slice Ao14 t208.length co14) : Value).ownBlock) (.slice Ao12 t202.length co12) t202) ∧ Aside0 (Kd.Q (Kd.int .i64) 3 wc w.heap.size (fun k_ => some k_ ≠ ((.slice Ao12 t202.length co12) : Value).ownBlock) (.slice Ao14 t208.length co14) t208) ∧ Aside0 (wc.heap[gb211]? = some (.cells #[.int .i64 t199, .int .i64 t200, .int .i64 t201, (.slice Ao12 t202.length co12)] 40 (0, 0))) ∧ Aside0 (wc.heap[gb212]? = some (.cells #[.int .i64 t205, .int .i64 t206, .int .i64 t207, (.slice Ao14 t208.length co14)] 40 (0, 0))) ∧ Aside0 (Below w.heap.size w wc))
    case first =>
      have H := HC6.out
      clear HC6
      by_cases c19 : t213 = t216
      · rw [if_pos c19] at H
        have c19b0 : (t213 == t216) = true := beq_iff_eq.mpr c19
        have c19b1 : (t213 != t216) = false := bne_eq_false_iff_eq.mpr c19
        clear c19
        (first | rw [c19b0] | (simp only [i64_w, i32_w]; rw [c19b0]) | skip)
        by_cases c20 : t214 = t217
        · rw [if_pos c20] at H
          have c20b0 : (t214 == t217) = true := beq_iff_eq.mpr c20
          have c20b1 : (t214 != t217) = false := bne_eq_false_iff_eq.mpr c20
          clear c20
          by_cases c21 : (t215 != t218) = true
          · rw [if_pos c21] at H
            have c21b0 : (t215 != t218) = true := c21
            (try (have c21b1 : decide (t215 = t218) = false := by simpa using c21))
            (try (have c21b2 : (t215 == t218) = false := by simpa using c21))
            (try (have c21b3 : ¬ (t215 = t218) := by simpa using c21))
            clear c21
            have H' := Aside0.mk H
            clear H
            go_wp2
            repeat (go_quiet (fail); try go_wp2)
            go_meet
            case rel => exact ⟨_, (true), (by first | rfl | (simp; done) | (simp [*]; done)), H', ⟨by first | omega | exact Nat.le_refl _⟩, ⟨by (with_reducible repeat (first | apply Kd.Q_alloc | apply Kd.Q_drewN | apply Kd.Q_drew)); exact HO204.out⟩, ⟨by (with_reducible repeat (first | apply Kd.Q_alloc | apply Kd.Q_drewN | apply Kd.Q_drew)); exact HO210.out⟩, ⟨by (with_reducible repeat (first | refine blk_drewN ?_ _ | refine blk_drew ?_ | refine blk_alloc ?_ _)); exact BK211.out⟩, ⟨by (with_reducible repeat (first | refine blk_drewN ?_ _ | refine blk_drew ?_ | refine blk_alloc ?_ _)); exact BK212.out⟩, ⟨by repeat (first | (with_reducible first | exact HB.out | apply below_alloc | apply pw_below_drewN | apply below_drew1 | refine below_set ?_ GE211.out | refine below_set ?_ GE212.out) | exact HB.out)⟩⟩
          · rw [if_neg c21] at H
            have c21b0 : (t215 != t218) = false := by simpa using c21
            (try (have c21b1 : decide (t215 = t218) = true := by simpa using c21))
            (try (have c21b2 : (t215 == t218) = true := by simpa using c21))
            clear c21
            have H' := Aside0.mk H
            clear H
            go_wp2
            repeat (go_quiet (fail); try go_wp2)
            go_meet
            case rel => exact ⟨_, (!t215), (by first | rfl | (simp; done) | (simp [*]; done)), H', ⟨by first | omega | exact Nat.le_refl _⟩, ⟨by (with_reducible repeat (first | apply Kd.Q_alloc | apply Kd.Q_drewN | apply Kd.Q_drew)); exact HO204.out⟩, ⟨by (with_reducible repeat (first | apply Kd.Q_alloc | apply Kd.Q_drewN | apply Kd.Q_drew)); exact HO210.out⟩, ⟨by (with_reducible repeat (first | refine blk_drewN ?_ _ | refine blk_drew ?_ | refine blk_alloc ?_ _)); exact BK211.out⟩, ⟨by (with_reducible repeat (first | refine blk_drewN ?_ _ | refine blk_drew ?_ | refine blk_alloc ?_ _)); exact BK212.out⟩, ⟨by repeat (first | (with_reducible first | exact HB.out | apply below_alloc | apply pw_below_drewN | apply below_drew1 | refine below_set ?_ GE211.out | refine below_set ?_ GE212.out) | exact HB.out)⟩⟩
        · rw [if_neg c20] at H
          have c20b0 : (t214 == t217) = false := beq_eq_false_iff_ne.mpr c20
          have c20b1 : (t214 != t217) = true := bne_iff_ne.mpr c20
          have H' := Aside0.mk H
          clear H
          go_wp2
          repeat (go_quiet (fail); try go_wp2)
          go_meet
          case rel => exact ⟨_, (true), (by first | rfl | (simp; done) | (simp [*]; done)), H', ⟨by first | omega | exact Nat.le_refl _⟩, ⟨by (with_reducible repeat (first | apply Kd.Q_alloc | apply Kd.Q_drewN | apply Kd.Q_drew)); exact HO204.out⟩, ⟨by (with_reducible repeat (first | apply Kd.Q_alloc | apply Kd.Q_drewN | apply Kd.Q_drew)); exact HO210.out⟩, ⟨by (with_reducible repeat (first | refine blk_drewN ?_ _ | refine blk_drew ?_ | refine blk_alloc ?_ _)); exact BK211.out⟩, ⟨by (with_reducible repeat (first | refine blk_drewN ?_ _ | refine blk_drew ?_ | refine blk_alloc ?_ _)); exact BK212.out⟩, ⟨by repeat (first | (with_reducible first | exact HB.out | apply below_alloc | apply pw_below_drewN | apply below_drew1 | refine below_set ?_ GE211.out | refine below_set ?_ GE212.out) | exact HB.out)⟩⟩
      · rw [if_neg c19] at H
        have c19b0 : (t213 == t216) = false := beq_eq_false_iff_ne.mpr c19
        have c19b1 : (t213 != t216) = true := bne_iff_ne.mpr c19
        (first | rw [c19b0] | (simp only [i64_w, i32_w]; rw [c19b0]) | skip)
        have H' := Aside0.mk H
        clear H
        go_wp2
        repeat (go_quiet (fail); try go_wp2)
        go_meet
        case rel => exact ⟨_, (true), (by first | rfl | (simp; done) | (simp [*]; done)), H', ⟨by first | omega | exact Nat.le_refl _⟩, ⟨by (with_reducible repeat (first | apply Kd.Q_alloc | apply Kd.Q_drewN | apply Kd.Q_drew)); exact HO204.out⟩, ⟨by (with_reducible repeat (first | apply Kd.Q_alloc | apply Kd.Q_drewN | apply Kd.Q_drew)); exact HO210.out⟩, ⟨by (with_reducible repeat (first | refine blk_drewN ?_ _ | refine blk_drew ?_ | refine blk_alloc ?_ _)); exact BK211.out⟩, ⟨by (with_reducible repeat (first | refine blk_drewN ?_ _ | refine blk_drew ?_ | refine blk_alloc ?_ _)); exact BK212.out⟩, ⟨by repeat (first | (with_reducible first | exact HB.out | apply below_alloc | apply pw_below_drewN | apply below_drew1 | refine below_set ?_ GE211.out | refine below_set ?_ GE212.out) | exact HB.out)⟩⟩
    case rest =>
      clear HC6
      try clear c1
      try clear c2
      try clear c2b0
      try clear c2b1
      try clear p2
      try clear c9
      try clear c10
      try clear c19
      try clear c19b0
      try clear c19b1
      try clear c20
      try clear c20b0
      try clear c20b1
      try clear c21
      try clear c21b0
      try clear c21b1
      try clear c21b2
      try clear hcz11_0
      try clear hcz11_1
      try clear hcz11_2
      try clear hcz11_3
      try clear hcz13_0
      try clear hcz13_1
      try clear hcz13_2
      try clear hcz13_3
      try clear hcz16_0
      try clear hcz16_1
      try clear hcz16_2
      try clear hcz16_3
      try clear hcz17_0
      try clear hcz17_1
      try clear hcz17_2
      try clear hcz17_3
      try clear hfz11_0
      try clear hfz11_1
      try clear hfz11_2
      try clear hfz11_3
      try clear hfz13_0
      try clear hfz13_1
      try clear hfz13_2
      try clear hfz13_3
      try clear hfz16_0
      try clear hfz16_1
      try clear hfz16_2
      try clear hfz16_3
      try clear hfz17_0
      try clear hfz17_1
      try clear hfz17_2
      try clear hfz17_3
      obtain ⟨kq, x54_5, rfl, HA, HJ5, HO_212003, HO_213003, BK211, BK212, HB⟩ := hcut
      cases kq with
      | zero => exact absurd HA.out (by simp [laws_FnAgree.j0])
      | succ kj5 =>
        have H := HA.out
        clear HA
        simp only [laws_FnAgree.j0] at H
        by_cases c22 : x54_5 = true
        · subst c22
          have H1 : (if t213 = t216 then (if t214 = t217 then (some (t215 == t218)) else (some false)) else (some false)) = some r := by rw [if_pos rfl] at H; exact H
          clear H
          have H := H1
          clear H1
          by_cases c23 : t213 = t216
          · rw [if_pos c23] at H
            have c23b0 : (t213 == t216) = true := beq_iff_eq.mpr c23
            have c23b1 : (t213 != t216) = false := bne_eq_false_iff_eq.mpr c23
            clear c23
            by_cases c24 : t214 = t217
            · rw [if_pos c24] at H
              have c24b0 : (t214 == t217) = true := beq_iff_eq.mpr c24
              have c24b1 : (t214 != t217) = false := bne_eq_false_iff_eq.mpr c24
              clear c24
              obtain rfl := Option.some.inj H
              go_wp2
              repeat (go_quiet (fail); try go_wp2)
              go_ret
              exact ⟨by first | rfl | (simp [errW_none, errW_some] <;> rfl) | (simp [*, errW_none, errW_some] <;> rfl), by repeat (first | (with_reducible first | exact HB.out | apply below_alloc | apply pw_below_drewN | apply below_drew1 | refine below_set ?_ GE211.out | refine below_set ?_ GE212.out) | exact HB.out)⟩
            · rw [if_neg c24] at H
              have c24b0 : (t214 == t217) = false := beq_eq_false_iff_ne.mpr c24
              have c24b1 : (t214 != t217) = true := bne_iff_ne.mpr c24
              obtain rfl := Option.some.inj H
              go_wp2
              repeat (go_quiet (fail); try go_wp2)
              go_ret
              exact ⟨by first | rfl | (simp [errW_none, errW_some] <;> rfl) | (simp [*, errW_none, errW_some] <;> rfl), by repeat (first | (with_reducible first | exact HB.out | apply below_alloc | apply pw_below_drewN | apply below_drew1 | refine below_set ?_ GE211.out | refine below_set ?_ GE212.out) | exact HB.out)⟩
          · rw [if_neg c23] at H
            have c23b0 : (t213 == t216) = false := beq_eq_false_iff_ne.mpr c23
            have c23b1 : (t213 != t216) = true := bne_iff_ne.mpr c23
            obtain rfl := Option.some.inj H
            go_wp2
            repeat (go_quiet (fail); try go_wp2)
            go_ret
            exact ⟨by first | rfl | (simp [errW_none, errW_some] <;> rfl) | (simp [*, errW_none, errW_some] <;> rfl), by repeat (first | (with_reducible first | exact HB.out | apply below_alloc | apply pw_below_drewN | apply below_drew1 | refine below_set ?_ GE211.out | refine below_set ?_ GE212.out) | exact HB.out)⟩
        · replace c22 := Bool.eq_false_iff.mpr c22
          subst c22
          have H1 : ((impl_Agree.f kj5 t205 t206 t207 t208 t199 t200 t201 t202).bind fun bt219 => (laws_FnAgree.l0 kj5 t213 t214 bt219.1 bt219.2.1 bt219.2.2 0 t199 t200 t201 t202 t205 t206 t207 t208)) = some r := by rw [if_neg (show ¬ (false = true) by decide)] at H; exact H
          clear H
          have H := H1
          clear H1
          replace H := Option.bind_eq_some_iff.mp H
          obtain ⟨⟨t219, t220, t221⟩, A250, H⟩ := H
          replace H : (laws_FnAgree.l0 kj5 t213 t214 t219 t220 t221 0 t199 t200 t201 t202 t205 t206 t207 t208) = some r := H
          have A25 := Aside0.mk A250
          clear A250
          have H' := Aside0.mk H
          clear H
          have hnb26 := NB212_211.out
          have hnc26 := NB211_212.out
          have hcz27_0 : wc.cell? ⟨gb212, 0, none⟩ = some (.int .i64 t205) := (blk_cell BK212.out 0).trans rfl
          have hcz27_1 : wc.cell? ⟨gb212, 1, none⟩ = some (.int .i64 t206) := (blk_cell BK212.out 1).trans rfl
          have hcz27_2 : wc.cell? ⟨gb212, 2, none⟩ = some (.int .i64 t207) := (blk_cell BK212.out 2).trans rfl
          have hcz27_3 : wc.cell? ⟨gb212, 3, none⟩ = some (.slice Ao14 t208.length co14) := (blk_cell BK212.out 3).trans rfl
          have hfz27_0 := blk_frozen BK212.out 0
          have hfz27_1 := blk_frozen BK212.out 1
          have hfz27_2 := blk_frozen BK212.out 2
          have hfz27_3 := blk_frozen BK212.out 3
          have hcz28_0 : wc.cell? ⟨gb211, 0, none⟩ = some (.int .i64 t199) := (blk_cell BK211.out 0).trans rfl
          have hcz28_1 : wc.cell? ⟨gb211, 1, none⟩ = some (.int .i64 t200) := (blk_cell BK211.out 1).trans rfl
          have hcz28_2 : wc.cell? ⟨gb211, 2, none⟩ = some (.int .i64 t201) := (blk_cell BK211.out 2).trans rfl
          have hcz28_3 : wc.cell? ⟨gb211, 3, none⟩ = some (.slice Ao12 t202.length co12) := (blk_cell BK211.out 3).trans rfl
          have hfz28_0 := blk_frozen BK211.out 0
          have hfz28_1 := blk_frozen BK211.out 1
          have hfz28_2 := blk_frozen BK211.out 2
          have hfz28_3 := blk_frozen BK211.out 3
          go_wp2_with (first | (go_at_call 30; (with_reducible refine (impl_Agree.calls kj5 t205 t206 t207 _ _ t208 t199 t200 t201 _ _ t202 t219 t220 t221 _ ?side1 ?side2 ?side3 ?side4 A25.out).mono ?_); (case side1 => repeat (first | exact (Kd.Q_reads' HO_213003.out).2.2 | (with_reducible refine Kd.C_alloc ?_ _) | (with_reducible refine Kd.C_drewN ?_ _) | (with_reducible refine Kd.C_drew ?_))); (case side2 => exact (Kd.Q_reads' HO_213003.out).2.1); (case side3 => repeat (first | exact (Kd.Q_reads' HO_212003.out).2.2 | (with_reducible refine Kd.C_alloc ?_ _) | (with_reducible refine Kd.C_drewN ?_ _) | (with_reducible refine Kd.C_drew ?_))); (case side4 => exact (Kd.Q_reads' HO_212003.out).2.1); rintro e w29 ⟨rfl, hb⟩; have n0_ := Aside0.mk (Kd.Q_below (by (with_reducible repeat (first | apply Kd.Q_alloc | apply Kd.Q_drewN | apply Kd.Q_drew)); exact HO_212003.out) hb); have n1_ := Aside0.mk (Kd.Q_below (by (with_reducible repeat (first | apply Kd.Q_alloc | apply Kd.Q_drewN | apply Kd.Q_drew)); exact HO_213003.out) hb); have n2_ := Aside0.mk (blk_below (g := gb211) (o := .cells #[.int .i64 t199, .int .i64 t200, .int .i64 t201, .slice Ao12 t202.length co12] 40 (0, 0)) (by (with_reducible repeat (first | refine blk_drewN ?_ _ | refine blk_drew ?_ | refine blk_alloc ?_ _)); exact BK211.out) hb); have n3_ := Aside0.mk (blk_below (g := gb212) (o := .cells #[.int .i64 t205, .int .i64 t206, .int .i64 t207, .slice Ao14 t208.length co14] 40 (0, 0)) (by (with_reducible repeat (first | refine blk_drewN ?_ _ | refine blk_drew ?_ | refine blk_alloc ?_ _)); exact BK212.out) hb); have n4_ := Aside0.mk (below_step (by repeat (first | (with_reducible first | exact HB.out | apply below_alloc | apply pw_below_drewN | apply below_drew1 | refine below_set ?_ GE211.out | refine below_set ?_ GE212.out) | exact HB.out)) hb); clear HO_212003; clear HO_213003; clear BK211; clear BK212; clear HB; have HO_212003 := n0_; have HO_213003 := n1_; have BK211 := n2_; have BK212 := n3_; have HB := n4_; clear n0_ n1_ n2_ n3_ n4_; (try clear hb); (try clear hb2); (try clear hk); (try clear hi)))
          repeat (go_quiet (first | (go_at_call 30; (with_reducible refine (impl_Agree.calls kj5 t205 t206 t207 _ _ t208 t199 t200 t201 _ _ t202 t219 t220 t221 _ ?side1 ?side2 ?side3 ?side4 A25.out).mono ?_); (case side1 => repeat (first | exact (Kd.Q_reads' HO_213003.out).2.2 | (with_reducible refine Kd.C_alloc ?_ _) | (with_reducible refine Kd.C_drewN ?_ _) | (with_reducible refine Kd.C_drew ?_))); (case side2 => exact (Kd.Q_reads' HO_213003.out).2.1); (case side3 => repeat (first | exact (Kd.Q_reads' HO_212003.out).2.2 | (with_reducible refine Kd.C_alloc ?_ _) | (with_reducible refine Kd.C_drewN ?_ _) | (with_reducible refine Kd.C_drew ?_))); (case side4 => exact (Kd.Q_reads' HO_212003.out).2.1); rintro e w29 ⟨rfl, hb⟩; have n0_ := Aside0.mk (Kd.Q_below (by (with_reducible repeat (first | apply Kd.Q_alloc | apply Kd.Q_drewN | apply Kd.Q_drew)); exact HO_212003.out) hb); have n1_ := Aside0.mk (Kd.Q_below (by (with_reducible repeat (first | apply Kd.Q_alloc | apply Kd.Q_drewN | apply Kd.Q_drew)); exact HO_213003.out) hb); have n2_ := Aside0.mk (blk_below (g := gb211) (o := .cells #[.int .i64 t199, .int .i64 t200, .int .i64 t201, .slice Ao12 t202.length co12] 40 (0, 0)) (by (with_reducible repeat (first | refine blk_drewN ?_ _ | refine blk_drew ?_ | refine blk_alloc ?_ _)); exact BK211.out) hb); have n3_ := Aside0.mk (blk_below (g := gb212) (o := .cells #[.int .i64 t205, .int .i64 t206, .int .i64 t207, .slice Ao14 t208.length co14] 40 (0, 0)) (by (with_reducible repeat (first | refine blk_drewN ?_ _ | refine blk_drew ?_ | refine blk_alloc ?_ _)); exact BK212.out) hb); have n4_ := Aside0.mk (below_step (by repeat (first | (with_reducible first | exact HB.out | apply below_alloc | apply pw_below_drewN | apply below_drew1 | refine below_set ?_ GE211.out | refine below_set ?_ GE212.out) | exact HB.out)) hb); clear HO_212003; clear HO_213003; clear BK211; clear BK212; clear HB; have HO_212003 := n0_; have HO_213003 := n1_; have BK211 := n2_; have BK212 := n3_; have HB := n4_; clear n0_ n1_ n2_ n3_ n4_; (try clear hb); (try clear hb2); (try clear hk); (try clear hi))); try go_wp2_with (first | (go_at_call 30; (with_reducible refine (impl_Agree.calls kj5 t205 t206 t207 _ _ t208 t199 t200 t201 _ _ t202 t219 t220 t221 _ ?side1 ?side2 ?side3 ?side4 A25.out).mono ?_); (case side1 => repeat (first | exact (Kd.Q_reads' HO_213003.out).2.2 | (with_reducible refine Kd.C_alloc ?_ _) | (with_reducible refine Kd.C_drewN ?_ _) | (with_reducible refine Kd.C_drew ?_))); (case side2 => exact (Kd.Q_reads' HO_213003.out).2.1); (case side3 => repeat (first | exact (Kd.Q_reads' HO_212003.out).2.2 | (with_reducible refine Kd.C_alloc ?_ _) | (with_reducible refine Kd.C_drewN ?_ _) | (with_reducible refine Kd.C_drew ?_))); (case side4 => exact (Kd.Q_reads' HO_212003.out).2.1); rintro e w29 ⟨rfl, hb⟩; have n0_ := Aside0.mk (Kd.Q_below (by (with_reducible repeat (first | apply Kd.Q_alloc | apply Kd.Q_drewN | apply Kd.Q_drew)); exact HO_212003.out) hb); have n1_ := Aside0.mk (Kd.Q_below (by (with_reducible repeat (first | apply Kd.Q_alloc | apply Kd.Q_drewN | apply Kd.Q_drew)); exact HO_213003.out) hb); have n2_ := Aside0.mk (blk_below (g := gb211) (o := .cells #[.int .i64 t199, .int .i64 t200, .int .i64 t201, .slice Ao12 t202.length co12] 40 (0, 0)) (by (with_reducible repeat (first | refine blk_drewN ?_ _ | refine blk_drew ?_ | refine blk_alloc ?_ _)); exact BK211.out) hb); have n3_ := Aside0.mk (blk_below (g := gb212) (o := .cells #[.int .i64 t205, .int .i64 t206, .int .i64 t207, .slice Ao14 t208.length co14] 40 (0, 0)) (by (with_reducible repeat (first | refine blk_drewN ?_ _ | refine blk_drew ?_ | refine blk_alloc ?_ _)); exact BK212.out) hb); have n4_ := Aside0.mk (below_step (by repeat (first | (with_reducible first | exact HB.out | apply below_alloc | apply pw_below_drewN | apply below_drew1 | refine below_set ?_ GE211.out | refine below_set ?_ GE212.out) | exact HB.out)) hb); clear HO_212003; clear HO_213003; clear BK211; clear BK212; clear HB; have HO_212003 := n0_; have HO_213003 := n1_; have BK211 := n2_; have BK212 := n3_; have HB := n4_; clear n0_ n1_ n2_ n3_ n4_; (try clear hb); (try clear hb2); (try clear hk); (try clear hi))))
          go_loopg [14] kj5 (fun kq v14 w' => ∃ (x14_2 : Int), v14 = .int .i64 x14_2 ∧ Aside0 (laws_FnAgree.l0 kq t213 t214 t219 t220 t221 x14_2 t199 t200 t201 t202 t205 t206 t207 t208 = some r) ∧ Aside0 (kq ≤ kj5) ∧ Aside0 (Kd.Q (Kd.int .i64) 3 w' w.heap.size (fun k_ => some k_ ≠ ((.slice Ao14 t208.length co14) : Value).ownBlock) (.slice Ao12 t202.length co12) t202) ∧ Aside0 (Kd.Q (Kd.int .i64) 3 w' w.heap.size (fun k_ => some k_ ≠ ((.slice Ao12 t202.length co12) : Value).ownBlock) (.slice Ao14 t208.length co14) t208) ∧ Aside0 (w'.heap[gb211]? = some (.cells #[.int .i64 t199, .int .i64 t200, .int .i64 t201, (.slice Ao12 t202.length co12)] 40 (0, 0))) ∧ Aside0 (w'.heap[gb212]? = some (.cells #[.int .i64 t205, .int .i64 t206, .int .i64 t207, (.slice Ao14 t208.length co14)] 40 (0, 0))) ∧ Aside0 (Below w.heap.size w w'))
          case atStart => exact ⟨(0), (by first | rfl | (simp; done) | (simp [*]; done)), H', ⟨Nat.le_refl _⟩, ⟨by (with_reducible repeat (first | apply Kd.Q_alloc | apply Kd.Q_drewN | apply Kd.Q_drew)); exact HO_212003.out⟩, ⟨by (with_reducible repeat (first | apply Kd.Q_alloc | apply Kd.Q_drewN | apply Kd.Q_drew)); exact HO_213003.out⟩, ⟨by (with_reducible repeat (first | refine blk_drewN ?_ _ | refine blk_drew ?_ | refine blk_alloc ?_ _)); exact BK211.out⟩, ⟨by (with_reducible repeat (first | refine blk_drewN ?_ _ | refine blk_drew ?_ | refine blk_alloc ?_ _)); exact BK212.out⟩, ⟨by repeat (first | (with_reducible first | exact HB.out | apply below_alloc | apply pw_below_drewN | apply below_drew1 | refine below_set ?_ GE211.out | refine below_set ?_ GE212.out) | exact HB.out)⟩⟩
          case round =>
            clear H'
            try clear c1
            try clear c2
            try clear c2b0
            try clear c2b1
            try clear p2
            try clear c9
            try clear c10
            try clear c19
            try clear c19b0
            try clear c19b1
            try clear c20
            try clear c20b0
            try clear c20b1
            try clear c21
            try clear c21b0
            try clear c21b1
            try clear c21b2
            try clear c22
            try clear c23
            try clear c23b0
            try clear c23b1
            try clear c24
            try clear c24b0
            try clear c24b1
            try clear c26
            try clear hcz11_0
            try clear hcz11_1
            try clear hcz11_2
            try clear hcz11_3
            try clear hcz13_0
            try clear hcz13_1
            try clear hcz13_2
            try clear hcz13_3
            try clear hcz16_0
            try clear hcz16_1
            try clear hcz16_2
            try clear hcz16_3
            try clear hcz17_0
            try clear hcz17_1
            try clear hcz17_2
            try clear hcz17_3
            try clear hcz27_0
            try clear hcz27_1
            try clear hcz27_2
            try clear hcz27_3
            try clear hcz28_0
            try clear hcz28_1
            try clear hcz28_2
            try clear hcz28_3
            try clear hfz11_0
            try clear hfz11_1
            try clear hfz11_2
            try clear hfz11_3
            try clear hfz13_0
            try clear hfz13_1
            try clear hfz13_2
            try clear hfz13_3
            try clear hfz16_0
            try clear hfz16_1
            try clear hfz16_2
            try clear hfz16_3
            try clear hfz17_0
            try clear hfz17_1
            try clear hfz17_2
            try clear hfz17_3
            try clear hfz27_0
            try clear hfz27_1
            try clear hfz27_2
            try clear hfz27_3
            try clear hfz28_0
            try clear hfz28_1
            try clear hfz28_2
            try clear hfz28_3
            try clear p2
            obtain ⟨x14_2, rfl, HA, HK2, HO_212003, HO_213003, BK211, BK212, HB⟩ := hrel
            cases gk with
            | zero => exact absurd HA.out (by simp [laws_FnAgree.l0])
            | succ k2 =>
              have H := HA.out
              clear HA
              simp only [laws_FnAgree.l0] at H
              by_cases c30 : x14_2 < 5
              · rw [if_pos c30] at H
                have c30b0 : decide (x14_2 < 5) = true := decide_eq_true c30
                clear c30
                by_cases c31 : 0 ≤ x14_2
                · rw [if_pos c31] at H
                  have c31b0 : decide (0 ≤ x14_2) = true := decide_eq_true c31
                  clear c31
                  by_cases c32 : x14_2 < (t202.length : Int)
                  · rw [if_pos c32] at H
                    have c32b0 : decide (x14_2 < (t202.length : Int)) = true := decide_eq_true c32
                    clear c32
                    by_cases c33 : x14_2 < (t208.length : Int)
                    · rw [if_pos c33] at H
                      have c33b0 : decide (x14_2 < (t208.length : Int)) = true := decide_eq_true c33
                      clear c33
                      have HC34 := Aside0.mk H
                      clear H
                      have hnb35 := NB211_212.out
                      have hnc35 := NB212_211.out
                      have hcz36_0 : wr.cell? ⟨gb211, 0, none⟩ = some (.int .i64 t199) := (blk_cell BK211.out 0).trans rfl
                      have hcz36_1 : wr.cell? ⟨gb211, 1, none⟩ = some (.int .i64 t200) := (blk_cell BK211.out 1).trans rfl
                      have hcz36_2 : wr.cell? ⟨gb211, 2, none⟩ = some (.int .i64 t201) := (blk_cell BK211.out 2).trans rfl
                      have hcz36_3 : wr.cell? ⟨gb211, 3, none⟩ = some (.slice Ao12 t202.length co12) := (blk_cell BK211.out 3).trans rfl
                      have hfz36_0 := blk_frozen BK211.out 0
                      have hfz36_1 := blk_frozen BK211.out 1
                      have hfz36_2 := blk_frozen BK211.out 2
                      have hfz36_3 := blk_frozen BK211.out 3
                      have p222 : 0 ≤ (x14_2 : Int) := of_decide_eq_true (by first | (with_reducible assumption) | assumption)
                      have q222 : x14_2 < (t202.length : Int) := of_decide_eq_true (by first | (with_reducible assumption) | assumption)
                      obtain ⟨ad222, e222, hx222_0⟩ := Kd.at_int (Kd.Q_reads' HO_212003.out).2.2 x14_2 p222 q222
                      cases e222
                      replace p222 := eq_true p222
                      replace q222 := eq_true q222
                      have hcz37_0 : wr.cell? ⟨gb212, 0, none⟩ = some (.int .i64 t205) := (blk_cell BK212.out 0).trans rfl
                      have hcz37_1 : wr.cell? ⟨gb212, 1, none⟩ = some (.int .i64 t206) := (blk_cell BK212.out 1).trans rfl
                      have hcz37_2 : wr.cell? ⟨gb212, 2, none⟩ = some (.int .i64 t207) := (blk_cell BK212.out 2).trans rfl
                      have hcz37_3 : wr.cell? ⟨gb212, 3, none⟩ = some (.slice Ao14 t208.length co14) := (blk_cell BK212.out 3).trans rfl
                      have hfz37_0 := blk_frozen BK212.out 0
                      have hfz37_1 := blk_frozen BK212.out 1
                      have hfz37_2 := blk_frozen BK212.out 2
                      have hfz37_3 := blk_frozen BK212.out 3
                      have p223 : 0 ≤ (x14_2 : Int) := of_decide_eq_true (by first | (with_reducible assumption) | assumption)
                      have q223 : x14_2 < (t208.length : Int) := of_decide_eq_true (by first | (with_reducible assumption) | assumption)
                      obtain ⟨ad223, e223, hx223_0⟩ := Kd.at_int (Kd.Q_reads' HO_213003.out).2.2 x14_2 p223 q223
                      cases e223
                      replace p223 := eq_true p223
                      replace q223 := eq_true q223
                      go_upto_region 13 with (fail)
                      repeat (go_quiet (fail); go_upto_region 13 with (fail))
                      go_cut [100] (fun v100 wc => ∃ (kq : Nat) (x100_33 : Bool), v100 = .bool x100_33 ∧ Aside0 (laws_FnAgree.j2 kq t213 t214 t219 t220 t221 x14_2 (Go.bits .or .i64 (rd t202 x14_2) (rd t208 x14_2)) x100_33 t199 t200 t201 t202 t205 t206 t207 t208 = some r) ∧ Aside0 (kq ≤ k2) ∧ Aside0 (Kd.Q (Kd.int .i64) 3 wc w.heap.size (fun k_ => some k_ ≠ ((.slice (some ad223) t208.length co14) : Value).ownBlock) (.slice (some ad222) t202.length co12) t202) ∧ Aside0 (Kd.Q (Kd.int .i64) 3 wc w.heap.size (fun k_ => some k_ ≠ ((.slice (some ad222) t202.length co12) : Value).ownBlock) (.slice (some ad223) t208.length co14) t208) ∧ Aside0 (wc.heap[gb211]? = some (.cells #[.int .i64 t199, .int .i64 t200, .int .i64 t201, (.slice (some ad222) t202.length co12)] 40 (0, 0))) ∧ Aside0 (wc.heap[gb212]? = some (.cells #[.int .i64 t205, .int .i64 t206, .int .i64 t207, (.slice (some ad223) t208.length co14)] 40 (0, 0))) ∧ Aside0 (Below w.heap.size w wc))
                      case first =>
                        have H := HC34.out
                        clear HC34
                        replace H := Option.bind_eq_some_iff.mp H
                        obtain ⟨t224, A380, H⟩ := H
                        replace H : (if t224 = 1 then (laws_FnAgree.j2 k2 t213 t214 t219 t220 t221 x14_2 (Go.bits .or .i64 (rd t202 x14_2) (rd t208 x14_2)) ((Go.bits .and .i64 (Go.bits .or .i64 (rd t202 x14_2) (rd t208 x14_2)) t214) != (Go.bits .or .i64 (rd t202 x14_2) (rd t208 x14_2))) t199 t200 t201 t202 t205 t206 t207 t208) else (laws_FnAgree.j2 k2 t213 t214 t219 t220 t221 x14_2 (Go.bits .or .i64 (rd t202 x14_2) (rd t208 x14_2)) false t199 t200 t201 t202 t205 t206 t207 t208)) = some r := H
                        have A38 := Aside0.mk A380
                        clear A380
                        by_cases c39 : t224 = 1
                        · rw [if_pos c39] at H
                          have c39b0 : (t224 == 1) = true := beq_iff_eq.mpr c39
                          have c39b1 : (t224 != 1) = false := bne_eq_false_iff_eq.mpr c39
                          clear c39
                          (first | rw [c39b0] | (simp only [i64_w, i32_w]; rw [c39b0]) | skip)
                          have H' := Aside0.mk H
                          clear H
                          go_wp2_with (first | (go_at_call 38; (with_reducible refine (laws_bit.calls k2 t214 x14_2 t224 _ A38.out).mono ?_); rintro e w' ⟨rfl, ⟨nd, rfl⟩⟩; (try first | exact ⟨rfl, _, World.drewN_drewN _ _ _⟩ | exact ⟨rfl, _, Eq.trans (World.drewN_drewN _ _ _) (congrArg (World.drewN _) (Nat.add_assoc _ _ _))⟩)))
                          repeat (go_quiet (first | (go_at_call 38; (with_reducible refine (laws_bit.calls k2 t214 x14_2 t224 _ A38.out).mono ?_); rintro e w' ⟨rfl, ⟨nd, rfl⟩⟩; (try first | exact ⟨rfl, _, World.drewN_drewN _ _ _⟩ | exact ⟨rfl, _, Eq.trans (World.drewN_drewN _ _ _) (congrArg (World.drewN _) (Nat.add_assoc _ _ _))⟩))); try go_wp2_with (first | (go_at_call 38; (with_reducible refine (laws_bit.calls k2 t214 x14_2 t224 _ A38.out).mono ?_); rintro e w' ⟨rfl, ⟨nd, rfl⟩⟩; (try first | exact ⟨rfl, _, World.drewN_drewN _ _ _⟩ | exact ⟨rfl, _, Eq.trans (World.drewN_drewN _ _ _) (congrArg (World.drewN _) (Nat.add_assoc _ _ _))⟩))))
                          go_meet
                          case rel => exact ⟨_, (((Go.bits .and .i64 (Go.bits .or .i64 (rd t202 x14_2) (rd t208 x14_2)) t214) != (Go.bits .or .i64 (rd t202 x14_2) (rd t208 x14_2)))), (by first | rfl | (simp; done) | (simp [*]; done)), H', ⟨by have := HJ5.out; have := HK2.out; first | omega | exact Nat.le_refl _⟩, ⟨by (with_reducible repeat (first | apply Kd.Q_alloc | apply Kd.Q_drewN | apply Kd.Q_drew)); exact HO_212003.out⟩, ⟨by (with_reducible repeat (first | apply Kd.Q_alloc | apply Kd.Q_drewN | apply Kd.Q_drew)); exact HO_213003.out⟩, ⟨by (with_reducible repeat (first | refine blk_drewN ?_ _ | refine blk_drew ?_ | refine blk_alloc ?_ _)); exact BK211.out⟩, ⟨by (with_reducible repeat (first | refine blk_drewN ?_ _ | refine blk_drew ?_ | refine blk_alloc ?_ _)); exact BK212.out⟩, ⟨by repeat (first | (with_reducible first | exact HB.out | apply below_alloc | apply pw_below_drewN | apply below_drew1 | refine below_set ?_ GE211.out | refine below_set ?_ GE212.out) | exact HB.out)⟩⟩
                        · rw [if_neg c39] at H
                          have c39b0 : (t224 == 1) = false := beq_eq_false_iff_ne.mpr c39
                          have c39b1 : (t224 != 1) = true := bne_iff_ne.mpr c39
                          (first | rw [c39b0] | (simp only [i64_w, i32_w]; rw [c39b0]) | skip)
                          have H' := Aside0.mk H
                          clear H
                          go_wp2_with (first | (go_at_call 38; (with_reducible refine (laws_bit.calls k2 t214 x14_2 t224 _ A38.out).mono ?_); rintro e w' ⟨rfl, ⟨nd, rfl⟩⟩; (try first | exact ⟨rfl, _, World.drewN_drewN _ _ _⟩ | exact ⟨rfl, _, Eq.trans (World.drewN_drewN _ _ _) (congrArg (World.drewN _) (Nat.add_assoc _ _ _))⟩)))
                          repeat (go_quiet (first | (go_at_call 38; (with_reducible refine (laws_bit.calls k2 t214 x14_2 t224 _ A38.out).mono ?_); rintro e w' ⟨rfl, ⟨nd, rfl⟩⟩; (try first | exact ⟨rfl, _, World.drewN_drewN _ _ _⟩ | exact ⟨rfl, _, Eq.trans (World.drewN_drewN _ _ _) (congrArg (World.drewN _) (Nat.add_assoc _ _ _))⟩))); try go_wp2_with (first | (go_at_call 38; (with_reducible refine (laws_bit.calls k2 t214 x14_2 t224 _ A38.out).mono ?_); rintro e w' ⟨rfl, ⟨nd, rfl⟩⟩; (try first | exact ⟨rfl, _, World.drewN_drewN _ _ _⟩ | exact ⟨rfl, _, Eq.trans (World.drewN_drewN _ _ _) (congrArg (World.drewN _) (Nat.add_assoc _ _ _))⟩))))
                          go_meet
                          case rel => exact ⟨_, (false), (by first | rfl | (simp; done) | (simp [*]; done)), H', ⟨by have := HJ5.out; have := HK2.out; first | omega | exact Nat.le_refl _⟩, ⟨by (with_reducible repeat (first | apply Kd.Q_alloc | apply Kd.Q_drewN | apply Kd.Q_drew)); exact HO_212003.out⟩, ⟨by (with_reducible repeat (first | apply Kd.Q_alloc | apply Kd.Q_drewN | apply Kd.Q_drew)); exact HO_213003.out⟩, ⟨by (with_reducible repeat (first | refine blk_drewN ?_ _ | refine blk_drew ?_ | refine blk_alloc ?_ _)); exact BK211.out⟩, ⟨by (with_reducible repeat (first | refine blk_drewN ?_ _ | refine blk_drew ?_ | refine blk_alloc ?_ _)); exact BK212.out⟩, ⟨by repeat (first | (with_reducible first | exact HB.out | apply below_alloc | apply pw_below_drewN | apply below_drew1 | refine below_set ?_ GE211.out | refine below_set ?_ GE212.out) | exact HB.out)⟩⟩
                      case rest =>
                        clear HC34
                        try clear c1
                        try clear c2
                        try clear c2b0
                        try clear c2b1
                        try clear p2
                        try clear q2
                        try clear hx2
                        try clear c3
                        try clear c9
                        try clear c10
                        try clear c19
                        try clear c19b0
                        try clear c19b1
                        try clear c20
                        try clear c20b0
                        try clear c20b1
                        try clear c21
                        try clear c21b0
                        try clear c21b1
                        try clear c21b2
                        try clear c22
                        try clear p22
                        try clear q22
                        try clear hx22
                        try clear c23
                        try clear c23b0
                        try clear c23b1
                        try clear c24
                        try clear c24b0
                        try clear c24b1
                        try clear c26
                        try clear c30
                        try clear c30b0
                        try clear c31
                        try clear c31b0
                        try clear c32
                        try clear c32b0
                        try clear c33
                        try clear c33b0
                        try clear c35
                        try clear c39
                        try clear c39b0
                        try clear c39b1
                        try clear hcz11_0
                        try clear hcz11_1
                        try clear hcz11_2
                        try clear hcz11_3
                        try clear hcz13_0
                        try clear hcz13_1
                        try clear hcz13_2
                        try clear hcz13_3
                        try clear hcz16_0
                        try clear hcz16_1
                        try clear hcz16_2
                        try clear hcz16_3
                        try clear hcz17_0
                        try clear hcz17_1
                        try clear hcz17_2
                        try clear hcz17_3
                        try clear hcz27_0
                        try clear hcz27_1
                        try clear hcz27_2
                        try clear hcz27_3
                        try clear hcz28_0
                        try clear hcz28_1
                        try clear hcz28_2
                        try clear hcz28_3
                        try clear hcz36_0
                        try clear hcz36_1
                        try clear hcz36_2
                        try clear hcz36_3
                        try clear hcz37_0
                        try clear hcz37_1
                        try clear hcz37_2
                        try clear hcz37_3
                        try clear hfz11_0
                        try clear hfz11_1
                        try clear hfz11_2
                        try clear hfz11_3
                        try clear hfz13_0
                        try clear hfz13_1
                        try clear hfz13_2
                        try clear hfz13_3
                        try clear hfz16_0
                        try clear hfz16_1
                        try clear hfz16_2
                        try clear hfz16_3
                        try clear hfz17_0
                        try clear hfz17_1
                        try clear hfz17_2
                        try clear hfz17_3
                        try clear hfz27_0
                        try clear hfz27_1
                        try clear hfz27_2
                        try clear hfz27_3
                        try clear hfz28_0
                        try clear hfz28_1
                        try clear hfz28_2
                        try clear hfz28_3
                        try clear hfz36_0
                        try clear hfz36_1
                        try clear hfz36_2
                        try clear hfz36_3
                        try clear hfz37_0
                        try clear hfz37_1
                        try clear hfz37_2
                        try clear hfz37_3
                        try clear hx222_0
                        try clear hx223_0
                        try clear p2
                        try clear p222
                        try clear p223
                        try clear q222
                        try clear q223
                        obtain ⟨kq, x100_33, rfl, HA, HJ33, HO_212003, HO_213003, BK211, BK212, HB⟩ := hcut
                        cases kq with
                        | zero => exact absurd HA.out (by simp [laws_FnAgree.j2])
                        | succ kj33 =>
                          have H := HA.out
                          clear HA
                          simp only [laws_FnAgree.j2] at H
                          by_cases c40 : x100_33 = true
                          · subst c40
                            have H1 : (some false) = some r := by rw [if_pos rfl] at H; exact H
                            clear H
                            have H := H1
                            clear H1
                            obtain rfl := Option.some.inj H
                            go_wp2
                            repeat (go_quiet (fail); try go_wp2)
                            go_ret
                            exact ⟨by first | rfl | (simp [errW_none, errW_some] <;> rfl) | (simp [*, errW_none, errW_some] <;> rfl), by repeat (first | (with_reducible first | exact HB.out | apply below_alloc | apply pw_below_drewN | apply below_drew1 | refine below_set ?_ GE211.out | refine below_set ?_ GE212.out) | exact HB.out)⟩
                          · replace c40 := Bool.eq_false_iff.mpr c40
                            subst c40
                            have H1 : ((laws_bit.f kj33 (Go.bits .and .i64 t201 t207) x14_2).bind fun t225 => (if t225 = 1 then ((laws_bit.f kj33 t214 x14_2).bind fun t226 => (if t226 = 0 then ((laws_power.f kj33 x14_2).bind fun t227 => (if (Go.bits .and .i64 (Go.bits .or .i64 (rd t202 x14_2) (rd t208 x14_2)) (Go.bits .or .i64 t214 t227)) = (Go.bits .or .i64 (rd t202 x14_2) (rd t208 x14_2)) then (some false) else (laws_FnAgree.l0 kj33 t213 t214 t219 t220 t221 (wrap64 (x14_2 + 1)) t199 t200 t201 t202 t205 t206 t207 t208))) else (laws_FnAgree.l0 kj33 t213 t214 t219 t220 t221 (wrap64 (x14_2 + 1)) t199 t200 t201 t202 t205 t206 t207 t208))) else (laws_FnAgree.l0 kj33 t213 t214 t219 t220 t221 (wrap64 (x14_2 + 1)) t199 t200 t201 t202 t205 t206 t207 t208))) = some r := by rw [if_neg (show ¬ (false = true) by decide)] at H; exact H
                            clear H
                            have H := H1
                            clear H1
                            replace H := Option.bind_eq_some_iff.mp H
                            obtain ⟨t225, A410, H⟩ := H
                            replace H : (if t225 = 1 then ((laws_bit.f kj33 t214 x14_2).bind fun t226 => (if t226 = 0 then ((laws_power.f kj33 x14_2).bind fun t227 => (if (Go.bits .and .i64 (Go.bits .or .i64 (rd t202 x14_2) (rd t208 x14_2)) (Go.bits .or .i64 t214 t227)) = (Go.bits .or .i64 (rd t202 x14_2) (rd t208 x14_2)) then (some false) else (laws_FnAgree.l0 kj33 t213 t214 t219 t220 t221 (wrap64 (x14_2 + 1)) t199 t200 t201 t202 t205 t206 t207 t208))) else (laws_FnAgree.l0 kj33 t213 t214 t219 t220 t221 (wrap64 (x14_2 + 1)) t199 t200 t201 t202 t205 t206 t207 t208))) else (laws_FnAgree.l0 kj33 t213 t214 t219 t220 t221 (wrap64 (x14_2 + 1)) t199 t200 t201 t202 t205 t206 t207 t208)) = some r := H
                            have A41 := Aside0.mk A410
                            clear A410
                            by_cases c42 : t225 = 1
                            · rw [if_pos c42] at H
                              have c42b0 : (t225 == 1) = true := beq_iff_eq.mpr c42
                              have c42b1 : (t225 != 1) = false := bne_eq_false_iff_eq.mpr c42
                              clear c42
                              replace H := Option.bind_eq_some_iff.mp H
                              obtain ⟨t226, A430, H⟩ := H
                              replace H : (if t226 = 0 then ((laws_power.f kj33 x14_2).bind fun t227 => (if (Go.bits .and .i64 (Go.bits .or .i64 (rd t202 x14_2) (rd t208 x14_2)) (Go.bits .or .i64 t214 t227)) = (Go.bits .or .i64 (rd t202 x14_2) (rd t208 x14_2)) then (some false) else (laws_FnAgree.l0 kj33 t213 t214 t219 t220 t221 (wrap64 (x14_2 + 1)) t199 t200 t201 t202 t205 t206 t207 t208))) else (laws_FnAgree.l0 kj33 t213 t214 t219 t220 t221 (wrap64 (x14_2 + 1)) t199 t200 t201 t202 t205 t206 t207 t208)) = some r := H
                              have A43 := Aside0.mk A430
                              clear A430
                              by_cases c44 : t226 = 0
                              · rw [if_pos c44] at H
                                have c44b0 : (t226 == 0) = true := beq_iff_eq.mpr c44
                                have c44b1 : (t226 != 0) = false := bne_eq_false_iff_eq.mpr c44
                                clear c44
                                replace H := Option.bind_eq_some_iff.mp H
                                obtain ⟨t227, A450, H⟩ := H
                                replace H : (if (Go.bits .and .i64 (Go.bits .or .i64 (rd t202 x14_2) (rd t208 x14_2)) (Go.bits .or .i64 t214 t227)) = (Go.bits .or .i64 (rd t202 x14_2) (rd t208 x14_2)) then (some false) else (laws_FnAgree.l0 kj33 t213 t214 t219 t220 t221 (wrap64 (x14_2 + 1)) t199 t200 t201 t202 t205 t206 t207 t208)) = some r := H
                                have A45 := Aside0.mk A450
                                clear A450
                                by_cases c46 : (Go.bits .and .i64 (Go.bits .or .i64 (rd t202 x14_2) (rd t208 x14_2)) (Go.bits .or .i64 t214 t227)) = (Go.bits .or .i64 (rd t202 x14_2) (rd t208 x14_2))
                                · rw [if_pos c46] at H
                                  have c46b0 : ((Go.bits .and .i64 (Go.bits .or .i64 (rd t202 x14_2) (rd t208 x14_2)) (Go.bits .or .i64 t214 t227)) == (Go.bits .or .i64 (rd t202 x14_2) (rd t208 x14_2))) = true := beq_iff_eq.mpr c46
                                  have c46b1 : ((Go.bits .and .i64 (Go.bits .or .i64 (rd t202 x14_2) (rd t208 x14_2)) (Go.bits .or .i64 t214 t227)) != (Go.bits .or .i64 (rd t202 x14_2) (rd t208 x14_2))) = false := bne_eq_false_iff_eq.mpr c46
                                  clear c46
                                  obtain rfl := Option.some.inj H
                                  have hnb47 := NB211_212.out
                                  have hnc47 := NB212_211.out
                                  have hcz48_0 : wc.cell? ⟨gb211, 0, none⟩ = some (.int .i64 t199) := (blk_cell BK211.out 0).trans rfl
                                  have hcz48_1 : wc.cell? ⟨gb211, 1, none⟩ = some (.int .i64 t200) := (blk_cell BK211.out 1).trans rfl
                                  have hcz48_2 : wc.cell? ⟨gb211, 2, none⟩ = some (.int .i64 t201) := (blk_cell BK211.out 2).trans rfl
                                  have hcz48_3 : wc.cell? ⟨gb211, 3, none⟩ = some (.slice (some ad222) t202.length co12) := (blk_cell BK211.out 3).trans rfl
                                  have hfz48_0 := blk_frozen BK211.out 0
                                  have hfz48_1 := blk_frozen BK211.out 1
                                  have hfz48_2 := blk_frozen BK211.out 2
                                  have hfz48_3 := blk_frozen BK211.out 3
                                  have hcz49_0 : wc.cell? ⟨gb212, 0, none⟩ = some (.int .i64 t205) := (blk_cell BK212.out 0).trans rfl
                                  have hcz49_1 : wc.cell? ⟨gb212, 1, none⟩ = some (.int .i64 t206) := (blk_cell BK212.out 1).trans rfl
                                  have hcz49_2 : wc.cell? ⟨gb212, 2, none⟩ = some (.int .i64 t207) := (blk_cell BK212.out 2).trans rfl
                                  have hcz49_3 : wc.cell? ⟨gb212, 3, none⟩ = some (.slice (some ad223) t208.length co14) := (blk_cell BK212.out 3).trans rfl
                                  have hfz49_0 := blk_frozen BK212.out 0
                                  have hfz49_1 := blk_frozen BK212.out 1
                                  have hfz49_2 := blk_frozen BK212.out 2
                                  have hfz49_3 := blk_frozen BK212.out 3
                                  go_wp2_with (first | (go_at_call 38; (with_reducible refine (laws_bit.calls kj33 (Go.bits .and .i64 t201 t207) x14_2 t225 _ A41.out).mono ?_); rintro e w' ⟨rfl, ⟨nd, rfl⟩⟩; (try first | exact ⟨rfl, _, World.drewN_drewN _ _ _⟩ | exact ⟨rfl, _, Eq.trans (World.drewN_drewN _ _ _) (congrArg (World.drewN _) (Nat.add_assoc _ _ _))⟩)) | (go_at_call 38; (with_reducible refine (laws_bit.calls kj33 t214 x14_2 t226 _ A43.out).mono ?_); rintro e w' ⟨rfl, ⟨nd, rfl⟩⟩; (try first | exact ⟨rfl, _, World.drewN_drewN _ _ _⟩ | exact ⟨rfl, _, Eq.trans (World.drewN_drewN _ _ _) (congrArg (World.drewN _) (Nat.add_assoc _ _ _))⟩)) | (go_at_call 39; (with_reducible refine (laws_power.calls kj33 x14_2 t227 _ A45.out).mono ?_); rintro e w' ⟨rfl, ⟨nd, rfl⟩⟩; (try first | exact ⟨rfl, _, World.drewN_drewN _ _ _⟩ | exact ⟨rfl, _, Eq.trans (World.drewN_drewN _ _ _) (congrArg (World.drewN _) (Nat.add_assoc _ _ _))⟩)))
                                  repeat (go_quiet (first | (go_at_call 38; (with_reducible refine (laws_bit.calls kj33 (Go.bits .and .i64 t201 t207) x14_2 t225 _ A41.out).mono ?_); rintro e w' ⟨rfl, ⟨nd, rfl⟩⟩; (try first | exact ⟨rfl, _, World.drewN_drewN _ _ _⟩ | exact ⟨rfl, _, Eq.trans (World.drewN_drewN _ _ _) (congrArg (World.drewN _) (Nat.add_assoc _ _ _))⟩)) | (go_at_call 38; (with_reducible refine (laws_bit.calls kj33 t214 x14_2 t226 _ A43.out).mono ?_); rintro e w' ⟨rfl, ⟨nd, rfl⟩⟩; (try first | exact ⟨rfl, _, World.drewN_drewN _ _ _⟩ | exact ⟨rfl, _, Eq.trans (World.drewN_drewN _ _ _) (congrArg (World.drewN _) (Nat.add_assoc _ _ _))⟩)) | (go_at_call 39; (with_reducible refine (laws_power.calls kj33 x14_2 t227 _ A45.out).mono ?_); rintro e w' ⟨rfl, ⟨nd, rfl⟩⟩; (try first | exact ⟨rfl, _, World.drewN_drewN _ _ _⟩ | exact ⟨rfl, _, Eq.trans (World.drewN_drewN _ _ _) (congrArg (World.drewN _) (Nat.add_assoc _ _ _))⟩))); try go_wp2_with (first | (go_at_call 38; (with_reducible refine (laws_bit.calls kj33 (Go.bits .and .i64 t201 t207) x14_2 t225 _ A41.out).mono ?_); rintro e w' ⟨rfl, ⟨nd, rfl⟩⟩; (try first | exact ⟨rfl, _, World.drewN_drewN _ _ _⟩ | exact ⟨rfl, _, Eq.trans (World.drewN_drewN _ _ _) (congrArg (World.drewN _) (Nat.add_assoc _ _ _))⟩)) | (go_at_call 38; (with_reducible refine (laws_bit.calls kj33 t214 x14_2 t226 _ A43.out).mono ?_); rintro e w' ⟨rfl, ⟨nd, rfl⟩⟩; (try first | exact ⟨rfl, _, World.drewN_drewN _ _ _⟩ | exact ⟨rfl, _, Eq.trans (World.drewN_drewN _ _ _) (congrArg (World.drewN _) (Nat.add_assoc _ _ _))⟩)) | (go_at_call 39; (with_reducible refine (laws_power.calls kj33 x14_2 t227 _ A45.out).mono ?_); rintro e w' ⟨rfl, ⟨nd, rfl⟩⟩; (try first | exact ⟨rfl, _, World.drewN_drewN _ _ _⟩ | exact ⟨rfl, _, Eq.trans (World.drewN_drewN _ _ _) (congrArg (World.drewN _) (Nat.add_assoc _ _ _))⟩))))
                                  go_ret
                                  exact ⟨by first | rfl | (simp [errW_none, errW_some] <;> rfl) | (simp [*, errW_none, errW_some] <;> rfl), by repeat (first | (with_reducible first | exact HB.out | apply below_alloc | apply pw_below_drewN | apply below_drew1 | refine below_set ?_ GE211.out | refine below_set ?_ GE212.out) | exact HB.out)⟩
                                · rw [if_neg c46] at H
                                  have c46b0 : ((Go.bits .and .i64 (Go.bits .or .i64 (rd t202 x14_2) (rd t208 x14_2)) (Go.bits .or .i64 t214 t227)) == (Go.bits .or .i64 (rd t202 x14_2) (rd t208 x14_2))) = false := beq_eq_false_iff_ne.mpr c46
                                  have c46b1 : ((Go.bits .and .i64 (Go.bits .or .i64 (rd t202 x14_2) (rd t208 x14_2)) (Go.bits .or .i64 t214 t227)) != (Go.bits .or .i64 (rd t202 x14_2) (rd t208 x14_2))) = true := bne_iff_ne.mpr c46
                                  have H' := Aside0.mk H
                                  clear H
                                  have hnb50 := NB211_212.out
                                  have hnc50 := NB212_211.out
                                  have hcz51_0 : wc.cell? ⟨gb211, 0, none⟩ = some (.int .i64 t199) := (blk_cell BK211.out 0).trans rfl
                                  have hcz51_1 : wc.cell? ⟨gb211, 1, none⟩ = some (.int .i64 t200) := (blk_cell BK211.out 1).trans rfl
                                  have hcz51_2 : wc.cell? ⟨gb211, 2, none⟩ = some (.int .i64 t201) := (blk_cell BK211.out 2).trans rfl
                                  have hcz51_3 : wc.cell? ⟨gb211, 3, none⟩ = some (.slice (some ad222) t202.length co12) := (blk_cell BK211.out 3).trans rfl
                                  have hfz51_0 := blk_frozen BK211.out 0
                                  have hfz51_1 := blk_frozen BK211.out 1
                                  have hfz51_2 := blk_frozen BK211.out 2
                                  have hfz51_3 := blk_frozen BK211.out 3
                                  have hcz52_0 : wc.cell? ⟨gb212, 0, none⟩ = some (.int .i64 t205) := (blk_cell BK212.out 0).trans rfl
                                  have hcz52_1 : wc.cell? ⟨gb212, 1, none⟩ = some (.int .i64 t206) := (blk_cell BK212.out 1).trans rfl
                                  have hcz52_2 : wc.cell? ⟨gb212, 2, none⟩ = some (.int .i64 t207) := (blk_cell BK212.out 2).trans rfl
                                  have hcz52_3 : wc.cell? ⟨gb212, 3, none⟩ = some (.slice (some ad223) t208.length co14) := (blk_cell BK212.out 3).trans rfl
                                  have hfz52_0 := blk_frozen BK212.out 0
                                  have hfz52_1 := blk_frozen BK212.out 1
                                  have hfz52_2 := blk_frozen BK212.out 2
                                  have hfz52_3 := blk_frozen BK212.out 3
                                  go_wp2_with (first | (go_at_call 38; (with_reducible refine (laws_bit.calls kj33 (Go.bits .and .i64 t201 t207) x14_2 t225 _ A41.out).mono ?_); rintro e w' ⟨rfl, ⟨nd, rfl⟩⟩; (try first | exact ⟨rfl, _, World.drewN_drewN _ _ _⟩ | exact ⟨rfl, _, Eq.trans (World.drewN_drewN _ _ _) (congrArg (World.drewN _) (Nat.add_assoc _ _ _))⟩)) | (go_at_call 38; (with_reducible refine (laws_bit.calls kj33 t214 x14_2 t226 _ A43.out).mono ?_); rintro e w' ⟨rfl, ⟨nd, rfl⟩⟩; (try first | exact ⟨rfl, _, World.drewN_drewN _ _ _⟩ | exact ⟨rfl, _, Eq.trans (World.drewN_drewN _ _ _) (congrArg (World.drewN _) (Nat.add_assoc _ _ _))⟩)) | (go_at_call 39; (with_reducible refine (laws_power.calls kj33 x14_2 t227 _ A45.out).mono ?_); rintro e w' ⟨rfl, ⟨nd, rfl⟩⟩; (try first | exact ⟨rfl, _, World.drewN_drewN _ _ _⟩ | exact ⟨rfl, _, Eq.trans (World.drewN_drewN _ _ _) (congrArg (World.drewN _) (Nat.add_assoc _ _ _))⟩)))
                                  repeat (go_quiet (first | (go_at_call 38; (with_reducible refine (laws_bit.calls kj33 (Go.bits .and .i64 t201 t207) x14_2 t225 _ A41.out).mono ?_); rintro e w' ⟨rfl, ⟨nd, rfl⟩⟩; (try first | exact ⟨rfl, _, World.drewN_drewN _ _ _⟩ | exact ⟨rfl, _, Eq.trans (World.drewN_drewN _ _ _) (congrArg (World.drewN _) (Nat.add_assoc _ _ _))⟩)) | (go_at_call 38; (with_reducible refine (laws_bit.calls kj33 t214 x14_2 t226 _ A43.out).mono ?_); rintro e w' ⟨rfl, ⟨nd, rfl⟩⟩; (try first | exact ⟨rfl, _, World.drewN_drewN _ _ _⟩ | exact ⟨rfl, _, Eq.trans (World.drewN_drewN _ _ _) (congrArg (World.drewN _) (Nat.add_assoc _ _ _))⟩)) | (go_at_call 39; (with_reducible refine (laws_power.calls kj33 x14_2 t227 _ A45.out).mono ?_); rintro e w' ⟨rfl, ⟨nd, rfl⟩⟩; (try first | exact ⟨rfl, _, World.drewN_drewN _ _ _⟩ | exact ⟨rfl, _, Eq.trans (World.drewN_drewN _ _ _) (congrArg (World.drewN _) (Nat.add_assoc _ _ _))⟩))); try go_wp2_with (first | (go_at_call 38; (with_reducible refine (laws_bit.calls kj33 (Go.bits .and .i64 t201 t207) x14_2 t225 _ A41.out).mono ?_); rintro e w' ⟨rfl, ⟨nd, rfl⟩⟩; (try first | exact ⟨rfl, _, World.drewN_drewN _ _ _⟩ | exact ⟨rfl, _, Eq.trans (World.drewN_drewN _ _ _) (congrArg (World.drewN _) (Nat.add_assoc _ _ _))⟩)) | (go_at_call 38; (with_reducible refine (laws_bit.calls kj33 t214 x14_2 t226 _ A43.out).mono ?_); rintro e w' ⟨rfl, ⟨nd, rfl⟩⟩; (try first | exact ⟨rfl, _, World.drewN_drewN _ _ _⟩ | exact ⟨rfl, _, Eq.trans (World.drewN_drewN _ _ _) (congrArg (World.drewN _) (Nat.add_assoc _ _ _))⟩)) | (go_at_call 39; (with_reducible refine (laws_power.calls kj33 x14_2 t227 _ A45.out).mono ?_); rintro e w' ⟨rfl, ⟨nd, rfl⟩⟩; (try first | exact ⟨rfl, _, World.drewN_drewN _ _ _⟩ | exact ⟨rfl, _, Eq.trans (World.drewN_drewN _ _ _) (congrArg (World.drewN _) (Nat.add_assoc _ _ _))⟩))))
                                  go_roundg kj33
                                  case measure => have := HJ5.out; have := HK2.out; have := HJ33.out; omega
                                  case rel => exact ⟨(wrap64 (x14_2 + 1)), (by first | rfl | (simp; done) | (simp [*]; done)), H', ⟨by have := HJ5.out; have := HK2.out; have := HJ33.out; omega⟩, ⟨by (with_reducible repeat (first | apply Kd.Q_alloc | apply Kd.Q_drewN | apply Kd.Q_drew)); exact HO_212003.out⟩, ⟨by (with_reducible repeat (first | apply Kd.Q_alloc | apply Kd.Q_drewN | apply Kd.Q_drew)); exact HO_213003.out⟩, ⟨by (with_reducible repeat (first | refine blk_drewN ?_ _ | refine blk_drew ?_ | refine blk_alloc ?_ _)); exact BK211.out⟩, ⟨by (with_reducible repeat (first | refine blk_drewN ?_ _ | refine blk_drew ?_ | refine blk_alloc ?_ _)); exact BK212.out⟩, ⟨by repeat (first | (with_reducible first | exact HB.out | apply below_alloc | apply pw_below_drewN | apply below_drew1 | refine below_set ?_ GE211.out | refine below_set ?_ GE212.out) | exact HB.out)⟩⟩
                              · rw [if_neg c44] at H
                                have c44b0 : (t226 == 0) = false := beq_eq_false_iff_ne.mpr c44
                                have c44b1 : (t226 != 0) = true := bne_iff_ne.mpr c44
                                have H' := Aside0.mk H
                                clear H
                                have hnb53 := NB211_212.out
                                have hnc53 := NB212_211.out
                                have hcz54_0 : wc.cell? ⟨gb211, 0, none⟩ = some (.int .i64 t199) := (blk_cell BK211.out 0).trans rfl
                                have hcz54_1 : wc.cell? ⟨gb211, 1, none⟩ = some (.int .i64 t200) := (blk_cell BK211.out 1).trans rfl
                                have hcz54_2 : wc.cell? ⟨gb211, 2, none⟩ = some (.int .i64 t201) := (blk_cell BK211.out 2).trans rfl
                                have hcz54_3 : wc.cell? ⟨gb211, 3, none⟩ = some (.slice (some ad222) t202.length co12) := (blk_cell BK211.out 3).trans rfl
                                have hfz54_0 := blk_frozen BK211.out 0
                                have hfz54_1 := blk_frozen BK211.out 1
                                have hfz54_2 := blk_frozen BK211.out 2
                                have hfz54_3 := blk_frozen BK211.out 3
                                have hcz55_0 : wc.cell? ⟨gb212, 0, none⟩ = some (.int .i64 t205) := (blk_cell BK212.out 0).trans rfl
                                have hcz55_1 : wc.cell? ⟨gb212, 1, none⟩ = some (.int .i64 t206) := (blk_cell BK212.out 1).trans rfl
                                have hcz55_2 : wc.cell? ⟨gb212, 2, none⟩ = some (.int .i64 t207) := (blk_cell BK212.out 2).trans rfl
                                have hcz55_3 : wc.cell? ⟨gb212, 3, none⟩ = some (.slice (some ad223) t208.length co14) := (blk_cell BK212.out 3).trans rfl
                                have hfz55_0 := blk_frozen BK212.out 0
                                have hfz55_1 := blk_frozen BK212.out 1
                                have hfz55_2 := blk_frozen BK212.out 2
                                have hfz55_3 := blk_frozen BK212.out 3
                                go_wp2_with (first | (go_at_call 38; (with_reducible refine (laws_bit.calls kj33 (Go.bits .and .i64 t201 t207) x14_2 t225 _ A41.out).mono ?_); rintro e w' ⟨rfl, ⟨nd, rfl⟩⟩; (try first | exact ⟨rfl, _, World.drewN_drewN _ _ _⟩ | exact ⟨rfl, _, Eq.trans (World.drewN_drewN _ _ _) (congrArg (World.drewN _) (Nat.add_assoc _ _ _))⟩)) | (go_at_call 38; (with_reducible refine (laws_bit.calls kj33 t214 x14_2 t226 _ A43.out).mono ?_); rintro e w' ⟨rfl, ⟨nd, rfl⟩⟩; (try first | exact ⟨rfl, _, World.drewN_drewN _ _ _⟩ | exact ⟨rfl, _, Eq.trans (World.drewN_drewN _ _ _) (congrArg (World.drewN _) (Nat.add_assoc _ _ _))⟩)))
                                repeat (go_quiet (first | (go_at_call 38; (with_reducible refine (laws_bit.calls kj33 (Go.bits .and .i64 t201 t207) x14_2 t225 _ A41.out).mono ?_); rintro e w' ⟨rfl, ⟨nd, rfl⟩⟩; (try first | exact ⟨rfl, _, World.drewN_drewN _ _ _⟩ | exact ⟨rfl, _, Eq.trans (World.drewN_drewN _ _ _) (congrArg (World.drewN _) (Nat.add_assoc _ _ _))⟩)) | (go_at_call 38; (with_reducible refine (laws_bit.calls kj33 t214 x14_2 t226 _ A43.out).mono ?_); rintro e w' ⟨rfl, ⟨nd, rfl⟩⟩; (try first | exact ⟨rfl, _, World.drewN_drewN _ _ _⟩ | exact ⟨rfl, _, Eq.trans (World.drewN_drewN _ _ _) (congrArg (World.drewN _) (Nat.add_assoc _ _ _))⟩))); try go_wp2_with (first | (go_at_call 38; (with_reducible refine (laws_bit.calls kj33 (Go.bits .and .i64 t201 t207) x14_2 t225 _ A41.out).mono ?_); rintro e w' ⟨rfl, ⟨nd, rfl⟩⟩; (try first | exact ⟨rfl, _, World.drewN_drewN _ _ _⟩ | exact ⟨rfl, _, Eq.trans (World.drewN_drewN _ _ _) (congrArg (World.drewN _) (Nat.add_assoc _ _ _))⟩)) | (go_at_call 38; (with_reducible refine (laws_bit.calls kj33 t214 x14_2 t226 _ A43.out).mono ?_); rintro e w' ⟨rfl, ⟨nd, rfl⟩⟩; (try first | exact ⟨rfl, _, World.drewN_drewN _ _ _⟩ | exact ⟨rfl, _, Eq.trans (World.drewN_drewN _ _ _) (congrArg (World.drewN _) (Nat.add_assoc _ _ _))⟩))))
                                go_roundg kj33
                                case measure => have := HJ5.out; have := HK2.out; have := HJ33.out; omega
                                case rel => exact ⟨(wrap64 (x14_2 + 1)), (by first | rfl | (simp; done) | (simp [*]; done)), H', ⟨by have := HJ5.out; have := HK2.out; have := HJ33.out; omega⟩, ⟨by (with_reducible repeat (first | apply Kd.Q_alloc | apply Kd.Q_drewN | apply Kd.Q_drew)); exact HO_212003.out⟩, ⟨by (with_reducible repeat (first | apply Kd.Q_alloc | apply Kd.Q_drewN | apply Kd.Q_drew)); exact HO_213003.out⟩, ⟨by (with_reducible repeat (first | refine blk_drewN ?_ _ | refine blk_drew ?_ | refine blk_alloc ?_ _)); exact BK211.out⟩, ⟨by (with_reducible repeat (first | refine blk_drewN ?_ _ | refine blk_drew ?_ | refine blk_alloc ?_ _)); exact BK212.out⟩, ⟨by repeat (first | (with_reducible first | exact HB.out | apply below_alloc | apply pw_below_drewN | apply below_drew1 | refine below_set ?_ GE211.out | refine below_set ?_ GE212.out) | exact HB.out)⟩⟩
                            · rw [if_neg c42] at H
                              have c42b0 : (t225 == 1) = false := beq_eq_false_iff_ne.mpr c42
                              have c42b1 : (t225 != 1) = true := bne_iff_ne.mpr c42
                              have H' := Aside0.mk H
                              clear H
                              have hnb56 := NB211_212.out
                              have hnc56 := NB212_211.out
                              have hcz57_0 : wc.cell? ⟨gb211, 0, none⟩ = some (.int .i64 t199) := (blk_cell BK211.out 0).trans rfl
                              have hcz57_1 : wc.cell? ⟨gb211, 1, none⟩ = some (.int .i64 t200) := (blk_cell BK211.out 1).trans rfl
                              have hcz57_2 : wc.cell? ⟨gb211, 2, none⟩ = some (.int .i64 t201) := (blk_cell BK211.out 2).trans rfl
                              have hcz57_3 : wc.cell? ⟨gb211, 3, none⟩ = some (.slice (some ad222) t202.length co12) := (blk_cell BK211.out 3).trans rfl
                              have hfz57_0 := blk_frozen BK211.out 0
                              have hfz57_1 := blk_frozen BK211.out 1
                              have hfz57_2 := blk_frozen BK211.out 2
                              have hfz57_3 := blk_frozen BK211.out 3
                              have hcz58_0 : wc.cell? ⟨gb212, 0, none⟩ = some (.int .i64 t205) := (blk_cell BK212.out 0).trans rfl
                              have hcz58_1 : wc.cell? ⟨gb212, 1, none⟩ = some (.int .i64 t206) := (blk_cell BK212.out 1).trans rfl
                              have hcz58_2 : wc.cell? ⟨gb212, 2, none⟩ = some (.int .i64 t207) := (blk_cell BK212.out 2).trans rfl
                              have hcz58_3 : wc.cell? ⟨gb212, 3, none⟩ = some (.slice (some ad223) t208.length co14) := (blk_cell BK212.out 3).trans rfl
                              have hfz58_0 := blk_frozen BK212.out 0
                              have hfz58_1 := blk_frozen BK212.out 1
                              have hfz58_2 := blk_frozen BK212.out 2
                              have hfz58_3 := blk_frozen BK212.out 3
                              go_wp2_with (first | (go_at_call 38; (with_reducible refine (laws_bit.calls kj33 (Go.bits .and .i64 t201 t207) x14_2 t225 _ A41.out).mono ?_); rintro e w' ⟨rfl, ⟨nd, rfl⟩⟩; (try first | exact ⟨rfl, _, World.drewN_drewN _ _ _⟩ | exact ⟨rfl, _, Eq.trans (World.drewN_drewN _ _ _) (congrArg (World.drewN _) (Nat.add_assoc _ _ _))⟩)))
                              repeat (go_quiet (first | (go_at_call 38; (with_reducible refine (laws_bit.calls kj33 (Go.bits .and .i64 t201 t207) x14_2 t225 _ A41.out).mono ?_); rintro e w' ⟨rfl, ⟨nd, rfl⟩⟩; (try first | exact ⟨rfl, _, World.drewN_drewN _ _ _⟩ | exact ⟨rfl, _, Eq.trans (World.drewN_drewN _ _ _) (congrArg (World.drewN _) (Nat.add_assoc _ _ _))⟩))); try go_wp2_with (first | (go_at_call 38; (with_reducible refine (laws_bit.calls kj33 (Go.bits .and .i64 t201 t207) x14_2 t225 _ A41.out).mono ?_); rintro e w' ⟨rfl, ⟨nd, rfl⟩⟩; (try first | exact ⟨rfl, _, World.drewN_drewN _ _ _⟩ | exact ⟨rfl, _, Eq.trans (World.drewN_drewN _ _ _) (congrArg (World.drewN _) (Nat.add_assoc _ _ _))⟩))))
                              go_roundg kj33
                              case measure => have := HJ5.out; have := HK2.out; have := HJ33.out; omega
                              case rel => exact ⟨(wrap64 (x14_2 + 1)), (by first | rfl | (simp; done) | (simp [*]; done)), H', ⟨by have := HJ5.out; have := HK2.out; have := HJ33.out; omega⟩, ⟨by (with_reducible repeat (first | apply Kd.Q_alloc | apply Kd.Q_drewN | apply Kd.Q_drew)); exact HO_212003.out⟩, ⟨by (with_reducible repeat (first | apply Kd.Q_alloc | apply Kd.Q_drewN | apply Kd.Q_drew)); exact HO_213003.out⟩, ⟨by (with_reducible repeat (first | refine blk_drewN ?_ _ | refine blk_drew ?_ | refine blk_alloc ?_ _)); exact BK211.out⟩, ⟨by (with_reducible repeat (first | refine blk_drewN ?_ _ | refine blk_drew ?_ | refine blk_alloc ?_ _)); exact BK212.out⟩, ⟨by repeat (first | (with_reducible first | exact HB.out | apply below_alloc | apply pw_below_drewN | apply below_drew1 | refine below_set ?_ GE211.out | refine below_set ?_ GE212.out) | exact HB.out)⟩⟩
                    · rw [if_neg c33] at H
                      exact absurd H (by simp)
                  · rw [if_neg c32] at H
                    exact absurd H (by simp)
                · rw [if_neg c31] at H
                  exact absurd H (by simp)
              · rw [if_neg c30] at H
                have c30b0 : decide (x14_2 < 5) = false := decide_eq_false c30
                clear c30
                by_cases c59 : t221 = true
                · subst c59
                  have H1 : (if t219 = t213 then (if t220 = t214 then (if t213 ≥ t199 then (if t213 ≥ t205 then (some ((Go.bits .and .i64 (Go.bits .and .i64 t214 t201) t207) == t214)) else (some false)) else (some false)) else (some false)) else (some false)) = some r := by rw [if_pos rfl] at H; exact H
                  clear H
                  have H := H1
                  clear H1
                  by_cases c60 : t219 = t213
                  · rw [if_pos c60] at H
                    have c60b0 : (t219 == t213) = true := beq_iff_eq.mpr c60
                    have c60b1 : (t219 != t213) = false := bne_eq_false_iff_eq.mpr c60
                    clear c60
                    by_cases c61 : t220 = t214
                    · rw [if_pos c61] at H
                      have c61b0 : (t220 == t214) = true := beq_iff_eq.mpr c61
                      have c61b1 : (t220 != t214) = false := bne_eq_false_iff_eq.mpr c61
                      clear c61
                      by_cases c62 : t213 ≥ t199
                      · rw [if_pos c62] at H
                        have c62b0 : decide (t199 ≤ t213) = true := decide_eq_true c62
                        clear c62
                        by_cases c63 : t213 ≥ t205
                        · rw [if_pos c63] at H
                          have c63b0 : decide (t205 ≤ t213) = true := decide_eq_true c63
                          clear c63
                          obtain rfl := Option.some.inj H
                          have hnb64 := NB211_212.out
                          have hnc64 := NB212_211.out
                          have hcz65_0 : wr.cell? ⟨gb211, 0, none⟩ = some (.int .i64 t199) := (blk_cell BK211.out 0).trans rfl
                          have hcz65_1 : wr.cell? ⟨gb211, 1, none⟩ = some (.int .i64 t200) := (blk_cell BK211.out 1).trans rfl
                          have hcz65_2 : wr.cell? ⟨gb211, 2, none⟩ = some (.int .i64 t201) := (blk_cell BK211.out 2).trans rfl
                          have hcz65_3 : wr.cell? ⟨gb211, 3, none⟩ = some (.slice Ao12 t202.length co12) := (blk_cell BK211.out 3).trans rfl
                          have hfz65_0 := blk_frozen BK211.out 0
                          have hfz65_1 := blk_frozen BK211.out 1
                          have hfz65_2 := blk_frozen BK211.out 2
                          have hfz65_3 := blk_frozen BK211.out 3
                          have hcz66_0 : wr.cell? ⟨gb212, 0, none⟩ = some (.int .i64 t205) := (blk_cell BK212.out 0).trans rfl
                          have hcz66_1 : wr.cell? ⟨gb212, 1, none⟩ = some (.int .i64 t206) := (blk_cell BK212.out 1).trans rfl
                          have hcz66_2 : wr.cell? ⟨gb212, 2, none⟩ = some (.int .i64 t207) := (blk_cell BK212.out 2).trans rfl
                          have hcz66_3 : wr.cell? ⟨gb212, 3, none⟩ = some (.slice Ao14 t208.length co14) := (blk_cell BK212.out 3).trans rfl
                          have hfz66_0 := blk_frozen BK212.out 0
                          have hfz66_1 := blk_frozen BK212.out 1
                          have hfz66_2 := blk_frozen BK212.out 2
                          have hfz66_3 := blk_frozen BK212.out 3
                          go_wp2
                          repeat (go_quiet (fail); try go_wp2)
                          go_ret
                          exact ⟨by first | rfl | (simp [errW_none, errW_some] <;> rfl) | (simp [*, errW_none, errW_some] <;> rfl), by repeat (first | (with_reducible first | exact HB.out | apply below_alloc | apply pw_below_drewN | apply below_drew1 | refine below_set ?_ GE211.out | refine below_set ?_ GE212.out) | exact HB.out)⟩
                        · rw [if_neg c63] at H
                          have c63b0 : decide (t205 ≤ t213) = false := decide_eq_false c63
                          clear c63
                          obtain rfl := Option.some.inj H
                          have hnb67 := NB211_212.out
                          have hnc67 := NB212_211.out
                          have hcz68_0 : wr.cell? ⟨gb211, 0, none⟩ = some (.int .i64 t199) := (blk_cell BK211.out 0).trans rfl
                          have hcz68_1 : wr.cell? ⟨gb211, 1, none⟩ = some (.int .i64 t200) := (blk_cell BK211.out 1).trans rfl
                          have hcz68_2 : wr.cell? ⟨gb211, 2, none⟩ = some (.int .i64 t201) := (blk_cell BK211.out 2).trans rfl
                          have hcz68_3 : wr.cell? ⟨gb211, 3, none⟩ = some (.slice Ao12 t202.length co12) := (blk_cell BK211.out 3).trans rfl
                          have hfz68_0 := blk_frozen BK211.out 0
                          have hfz68_1 := blk_frozen BK211.out 1
                          have hfz68_2 := blk_frozen BK211.out 2
                          have hfz68_3 := blk_frozen BK211.out 3
                          have hcz69_0 : wr.cell? ⟨gb212, 0, none⟩ = some (.int .i64 t205) := (blk_cell BK212.out 0).trans rfl
                          have hcz69_1 : wr.cell? ⟨gb212, 1, none⟩ = some (.int .i64 t206) := (blk_cell BK212.out 1).trans rfl
                          have hcz69_2 : wr.cell? ⟨gb212, 2, none⟩ = some (.int .i64 t207) := (blk_cell BK212.out 2).trans rfl
                          have hcz69_3 : wr.cell? ⟨gb212, 3, none⟩ = some (.slice Ao14 t208.length co14) := (blk_cell BK212.out 3).trans rfl
                          have hfz69_0 := blk_frozen BK212.out 0
                          have hfz69_1 := blk_frozen BK212.out 1
                          have hfz69_2 := blk_frozen BK212.out 2
                          have hfz69_3 := blk_frozen BK212.out 3
                          go_wp2
                          repeat (go_quiet (fail); try go_wp2)
                          go_ret
                          exact ⟨by first | rfl | (simp [errW_none, errW_some] <;> rfl) | (simp [*, errW_none, errW_some] <;> rfl), by repeat (first | (with_reducible first | exact HB.out | apply below_alloc | apply pw_below_drewN | apply below_drew1 | refine below_set ?_ GE211.out | refine below_set ?_ GE212.out) | exact HB.out)⟩
                      · rw [if_neg c62] at H
                        have c62b0 : decide (t199 ≤ t213) = false := decide_eq_false c62
                        clear c62
                        obtain rfl := Option.some.inj H
                        have hnb70 := NB211_212.out
                        have hnc70 := NB212_211.out
                        have hcz71_0 : wr.cell? ⟨gb211, 0, none⟩ = some (.int .i64 t199) := (blk_cell BK211.out 0).trans rfl
                        have hcz71_1 : wr.cell? ⟨gb211, 1, none⟩ = some (.int .i64 t200) := (blk_cell BK211.out 1).trans rfl
                        have hcz71_2 : wr.cell? ⟨gb211, 2, none⟩ = some (.int .i64 t201) := (blk_cell BK211.out 2).trans rfl
                        have hcz71_3 : wr.cell? ⟨gb211, 3, none⟩ = some (.slice Ao12 t202.length co12) := (blk_cell BK211.out 3).trans rfl
                        have hfz71_0 := blk_frozen BK211.out 0
                        have hfz71_1 := blk_frozen BK211.out 1
                        have hfz71_2 := blk_frozen BK211.out 2
                        have hfz71_3 := blk_frozen BK211.out 3
                        go_wp2
                        repeat (go_quiet (fail); try go_wp2)
                        go_ret
                        exact ⟨by first | rfl | (simp [errW_none, errW_some] <;> rfl) | (simp [*, errW_none, errW_some] <;> rfl), by repeat (first | (with_reducible first | exact HB.out | apply below_alloc | apply pw_below_drewN | apply below_drew1 | refine below_set ?_ GE211.out | refine below_set ?_ GE212.out) | exact HB.out)⟩
                    · rw [if_neg c61] at H
                      have c61b0 : (t220 == t214) = false := beq_eq_false_iff_ne.mpr c61
                      have c61b1 : (t220 != t214) = true := bne_iff_ne.mpr c61
                      obtain rfl := Option.some.inj H
                      go_wp2
                      repeat (go_quiet (fail); try go_wp2)
                      go_ret
                      exact ⟨by first | rfl | (simp [errW_none, errW_some] <;> rfl) | (simp [*, errW_none, errW_some] <;> rfl), by repeat (first | (with_reducible first | exact HB.out | apply below_alloc | apply pw_below_drewN | apply below_drew1 | refine below_set ?_ GE211.out | refine below_set ?_ GE212.out) | exact HB.out)⟩
                  · rw [if_neg c60] at H
                    have c60b0 : (t219 == t213) = false := beq_eq_false_iff_ne.mpr c60
                    have c60b1 : (t219 != t213) = true := bne_iff_ne.mpr c60
                    obtain rfl := Option.some.inj H
                    go_wp2
                    repeat (go_quiet (fail); try go_wp2)
                    go_ret
                    exact ⟨by first | rfl | (simp [errW_none, errW_some] <;> rfl) | (simp [*, errW_none, errW_some] <;> rfl), by repeat (first | (with_reducible first | exact HB.out | apply below_alloc | apply pw_below_drewN | apply below_drew1 | refine below_set ?_ GE211.out | refine below_set ?_ GE212.out) | exact HB.out)⟩
                · replace c59 := Bool.eq_false_iff.mpr c59
                  subst c59
                  have H1 : (some false) = some r := by rw [if_neg (show ¬ (false = true) by decide)] at H; exact H
                  clear H
                  have H := H1
                  clear H1
                  obtain rfl := Option.some.inj H
                  go_wp2
                  repeat (go_quiet (fail); try go_wp2)
                  go_ret
                  exact ⟨by first | rfl | (simp [errW_none, errW_some] <;> rfl) | (simp [*, errW_none, errW_some] <;> rfl), by repeat (first | (with_reducible first | exact HB.out | apply below_alloc | apply pw_below_drewN | apply below_drew1 | refine below_set ?_ GE211.out | refine below_set ?_ GE212.out) | exact HB.out)⟩

/-- THE ONE PURE STATEMENT of laws_FnAgree: yours. -/
def laws_FnAgree.Pure : Prop := ∀ (l0 : List Int), l0.length ≤ maxLen → l0.length * 1 ≤ 140737488351232 → (∀ x ∈ l0, (Lit.int .u8 x).wf = true) → ∃ k, laws_FnAgree.f k l0 = some true
theorem laws_FnAgree.walk (P : laws_FnAgree.Pure) (a0 : Option Addr) (len0 cap0 : Nat) (z0 : List Int) (w : World) (w0 : (a0 = none ∧ len0 = 0 ∧ cap0 = 0 ∧ z0 = []) ∨ ∃ x, a0 = some x ∧ len0 ≤ cap0 ∧ cap0 ≤ maxLen ∧ z0.length = cap0 ∧ (∀ i, i < z0.length → w.cell? (x.add i) = some (.int .u8 (z0.getD i 0))) ∧ ∀ n ∈ z0, (Lit.int .u8 n).wf = true) (y0 : len0 * 1 ≤ 140737488351232) :
    Calls Try.prog 9 #[.slice a0 len0 cap0] w fun e w' => e = .returned (.bool true) ∧ Below w.heap.size w w' := by
  obtain ⟨l0, rfl, hr0, hm0, hw0, hc0⟩ := ReadsInt.ofRowC w0
  obtain ⟨k, h⟩ := P l0 hm0 y0 hw0
  refine (laws_FnAgree.calls k _ _ l0 true w (Kd.C_of_reads (d := (0 : Int)) (h1 := fun _ => rfl) hr0) hc0 h).mono ?_
  rintro e w' ⟨rfl, hd⟩
  exact ⟨rfl, hd⟩

end Go.Proofs.Ytnolmimfpnngjaa.HFnAgree
