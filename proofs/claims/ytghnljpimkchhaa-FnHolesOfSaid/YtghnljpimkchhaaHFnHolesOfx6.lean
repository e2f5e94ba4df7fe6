-- Written by wip/hp.py, a program of this session.
import Derived.Test.YtghnljpimkchhaaHFnHolesOfx0
import Derived.Test.YtghnljpimkchhaaHFnHolesOfx4
import Derived.Test.YtghnljpimkchhaaHFnHolesOfx5
namespace Go.Proofs.Ytghnljpimkchhaa.HFnHolesOf
open Go.RowKit Go.Proofs.YtghnljpimkchhaaW.PrintWords Go.Proofs.YtghnljpimkchhaaW.PrintLast Go.Proofs.YtghnljpimkchhaaW.PrintMore
attribute [local go_sem] max2_int min2_int max_two min_two max_three min_three max_four min_four   -- for this text's walks alone
set_option linter.unusedVariables false
set_option linter.unusedSimpArgs false

/-! ### spec_somePieces: function 56 -/
mutual
def spec_somePieces.l0 : Nat → List (S47) → Int → List Int → Int → Option ((List (S47)) × Int)
  | 0, _, _, _, _ => none
  | k + 1, x7, x8, x1000, x1001 => if x8 > 0 then (spec_somePieces.j1 k x7 x8 (decide ((x7.length : Int) > 1)) x1000 x1001) else (spec_somePieces.j1 k x7 x8 false x1000 x1001)
def spec_somePieces.j1 : Nat → List (S47) → Int → Bool → List Int → Int → Option ((List (S47)) × Int)
  | 0, _, _, _, _, _ => none
  | k + 1, x7, x8, x40, x1000, x1001 => if x40 = true then ((spec_reader_pick.f k x1000 x1001 (x7.length : Int)).bind fun bt207 => ((spec_reader_pick.f k x1000 bt207.2 (x7.length : Int)).bind fun bt209 => (if 0 ≤ bt207.1 then (if bt207.1 < (x7.length : Int) then (if 0 ≤ bt209.1 then (if bt209.1 < (x7.length : Int) then (spec_somePieces.l0 k ((x7.set (bt207.1 : Int).toNat (⟨(rd_T47 x7 bt209.1).f0, (rd_T47 x7 bt209.1).f1, (rd_T47 x7 bt209.1).f2⟩ : S47)).set (bt209.1 : Int).toNat (⟨(rd_T47 x7 bt207.1).f0, (rd_T47 x7 bt207.1).f1, (rd_T47 x7 bt207.1).f2⟩ : S47)) (wrap64 (x8 - 1)) x1000 bt209.2) else (none)) else (none)) else (none)) else (none)))) else (if (x7.length : Int) > 1 then ((spec_reader_pick.f k x1000 x1001 3).bind fun bt216 => (spec_somePieces.j2 k x7 (bt216.1 == 0) x1000 bt216.2)) else (spec_somePieces.j2 k x7 false x1000 x1001))
def spec_somePieces.j2 : Nat → List (S47) → Bool → List Int → Int → Option ((List (S47)) × Int)
  | 0, _, _, _, _ => none
  | k + 1, x7, x73, x1000, x1001 => if x73 = true then ((spec_reader_pick.f k x1000 x1001 (x7.length : Int)).bind fun bt218 => ((some (([] : List (S47)) : List (S47))).bind fun y220 => (if 0 ≤ bt218.1 then (if bt218.1 ≤ (x7.length : Int) then ((some (x7.take (bt218.1 : Int).toNat : List (S47))).bind fun y223 => (if y220.length + y223.length < 5864062014805 then ((some (y220 ++ y223 : List (S47))).bind fun y227 => (if 0 ≤ (wrap64 (bt218.1 + 1)) then (if (wrap64 (bt218.1 + 1)) ≤ (x7.length : Int) then ((some (x7.drop ((wrap64 (bt218.1 + 1)) : Int).toNat : List (S47))).bind fun y230 => (if y227.length + y230.length < 5864062014805 then (spec_somePieces.j3 k (y227 ++ y230) x1000 bt218.2) else (none))) else (none)) else (none))) else (none))) else (none)) else (none)))) else (spec_somePieces.j3 k x7 x1000 x1001)
def spec_somePieces.j3 : Nat → List (S47) → List Int → Int → Option ((List (S47)) × Int)
  | 0, _, _, _ => none
  | k + 1, x7, x1000, x1001 => if (x7.length : Int) > 0 then ((spec_reader_pick.f k x1000 x1001 3).bind fun bt237 => (if bt237.1 = 0 then (spec_somePieces.j4 k x7 (decide ((x7.length : Int) < 20)) x1000 bt237.2) else (spec_somePieces.j4 k x7 false x1000 bt237.2))) else (spec_somePieces.j4 k x7 false x1000 x1001)
def spec_somePieces.j4 : Nat → List (S47) → Bool → List Int → Int → Option ((List (S47)) × Int)
  | 0, _, _, _, _ => none
  | k + 1, x7, x100, x1000, x1001 => if x100 = true then ((spec_reader_pick.f k x1000 x1001 (x7.length : Int)).bind fun bt239 => (if 0 ≤ bt239.1 then (if bt239.1 < (x7.length : Int) then (if x7.length < 5864062014805 then (spec_somePieces.j5 k (x7 ++ [(⟨(rd_T47 x7 bt239.1).f0, (rd_T47 x7 bt239.1).f1, (rd_T47 x7 bt239.1).f2⟩ : S47)]) x1000 bt239.2) else (none)) else (none)) else (none))) else (spec_somePieces.j5 k x7 x1000 x1001)
def spec_somePieces.j5 : Nat → List (S47) → List Int → Int → Option ((List (S47)) × Int)
  | 0, _, _, _ => none
  | k + 1, x7, x1000, x1001 => if (x7.length : Int) > 0 then ((spec_reader_pick.f k x1000 x1001 24).bind fun bt245 => (if bt245.1 = 0 then ((spec_reader_one.f k x1000 bt245.2 (([(-1), 60, 0] : List Int))).bind fun bt250 => (if 0 < (x7.length : Int) then (some ((x7.set (0 : Int).toNat (⟨bt250.1, (rd_T47 x7 0).f1, (rd_T47 x7 0).f2⟩ : S47)), bt250.2)) else (none))) else (if bt245.1 = 1 then ((spec_reader_one.f k x1000 bt245.2 (([0, 61, 2] : List Int))).bind fun bt256 => (if 0 < (x7.length : Int) then (some ((x7.set (0 : Int).toNat (⟨(rd_T47 x7 0).f0, bt256.1, (rd_T47 x7 0).f2⟩ : S47)), bt256.2)) else (none))) else (if bt245.1 = 2 then (if 0 < (x7.length : Int) then (some ((x7.set (0 : Int).toNat (⟨(rd_T47 x7 0).f0, (rd_T47 x7 0).f1, !((rd_T47 x7 0).f2)⟩ : S47)), bt245.2)) else (none)) else (if bt245.1 = 3 then (if 0 < (x7.length : Int) then (some ((x7.set (0 : Int).toNat (⟨(rd_T47 x7 0).f0, wrap64 (((rd_T47 x7 0).f1) + 1), (rd_T47 x7 0).f2⟩ : S47)), bt245.2)) else (none)) else (some (x7, bt245.2))))))) else (some (x7, x1001))
end
def spec_somePieces.f (k : Nat) (s0_0 : List Int) (s0_1 : Int) : Option ((List (S47)) × Int) := (spec_reader_one.f k s0_0 s0_1 (([20, 12, 30, 8, 1, 60] : List Int))).bind fun bt180 => ((spec_reader_one.f k s0_0 bt180.2 (([4, 8, 6, 3, 12] : List Int))).bind fun bt185 => ((spec_reader_one.f k s0_0 bt185.2 (([1, 2, 1, 3] : List Int))).bind fun bt190 => ((spec_CutLength.f k bt180.1 bt185.1 bt190.1).bind fun bt192 => ((some (([] : List (S47)) : List (S47))).bind fun y196 => (if y196.length + bt192.1.length < 5864062014805 then ((spec_reader_one.f k s0_0 bt190.2 (([0, 2, 4, 1] : List Int))).bind fun bt205 => (spec_somePieces.l0 k (y196 ++ bt192.1) bt205.1 s0_0 bt205.2)) else (none))))))
theorem spec_somePieces.mono_l : ∀ k, (∀ y0 y1 y2 y3, LeO (spec_somePieces.l0 k y0 y1 y2 y3) (spec_somePieces.l0 (k + 1) y0 y1 y2 y3)) ∧ (∀ y0 y1 y2 y3 y4, LeO (spec_somePieces.j1 k y0 y1 y2 y3 y4) (spec_somePieces.j1 (k + 1) y0 y1 y2 y3 y4)) ∧ (∀ y0 y1 y2 y3, LeO (spec_somePieces.j2 k y0 y1 y2 y3) (spec_somePieces.j2 (k + 1) y0 y1 y2 y3)) ∧ (∀ y0 y1 y2, LeO (spec_somePieces.j3 k y0 y1 y2) (spec_somePieces.j3 (k + 1) y0 y1 y2)) ∧ (∀ y0 y1 y2 y3, LeO (spec_somePieces.j4 k y0 y1 y2 y3) (spec_somePieces.j4 (k + 1) y0 y1 y2 y3)) ∧ (∀ y0 y1 y2, LeO (spec_somePieces.j5 k y0 y1 y2) (spec_somePieces.j5 (k + 1) y0 y1 y2))
  | 0 => ⟨fun _ _ _ _ r h => by simp [spec_somePieces.l0] at h, fun _ _ _ _ _ r h => by simp [spec_somePieces.j1] at h, fun _ _ _ _ r h => by simp [spec_somePieces.j2] at h, fun _ _ _ r h => by simp [spec_somePieces.j3] at h, fun _ _ _ _ r h => by simp [spec_somePieces.j4] at h, fun _ _ _ r h => by simp [spec_somePieces.j5] at h⟩
  | k + 1 => by
    obtain ⟨ih0, ih1, ih2, ih3, ih4, ih5⟩ := spec_somePieces.mono_l k
    refine ⟨?_, ?_, ?_, ?_, ?_, ?_⟩
    · intro y0 y1 y2 y3
      unfold spec_somePieces.l0
      repeat' first
      | (with_reducible exact ih0 _ _ _ _)
      | (with_reducible exact ih1 _ _ _ _ _)
      | (with_reducible exact ih2 _ _ _ _)
      | (with_reducible exact ih3 _ _ _)
      | (with_reducible exact ih4 _ _ _ _)
      | (with_reducible exact ih5 _ _ _)
      | (with_reducible exact spec_CutLength.mono _ _ _ _)
      | (with_reducible exact spec_reader_one.mono _ _ _ _)
      | (with_reducible exact spec_reader_pick.mono _ _ _ _)
      | (with_reducible exact LeO.refl _)
      | (with_reducible exact LeO.none _)
      | (with_reducible refine LeO.ite ?_ ?_)
      | (with_reducible refine LeO.bind ?_ (fun _ => ?_))
      | exact ih0 _ _ _ _
      | exact ih1 _ _ _ _ _
      | exact ih2 _ _ _ _
      | exact ih3 _ _ _
      | exact ih4 _ _ _ _
      | exact ih5 _ _ _
      | exact spec_CutLength.mono _ _ _ _
      | exact spec_reader_one.mono _ _ _ _
      | exact spec_reader_pick.mono _ _ _ _
      | exact LeO.none _
      | refine LeO.ite ?_ ?_
      | refine LeO.bind ?_ (fun _ => ?_)
    · intro y0 y1 y2 y3 y4
      unfold spec_somePieces.j1
      repeat' first
      | (with_reducible exact ih0 _ _ _ _)
      | (with_reducible exact ih1 _ _ _ _ _)
      | (with_reducible exact ih2 _ _ _ _)
      | (with_reducible exact ih3 _ _ _)
      | (with_reducible exact ih4 _ _ _ _)
      | (with_reducible exact ih5 _ _ _)
      | (with_reducible exact spec_CutLength.mono _ _ _ _)
      | (with_reducible exact spec_reader_one.mono _ _ _ _)
      | (with_reducible exact spec_reader_pick.mono _ _ _ _)
      | (with_reducible exact LeO.refl _)
      | (with_reducible exact LeO.none _)
      | (with_reducible refine LeO.ite ?_ ?_)
      | (with_reducible refine LeO.bind ?_ (fun _ => ?_))
      | exact ih0 _ _ _ _
      | exact ih1 _ _ _ _ _
      | exact ih2 _ _ _ _
      | exact ih3 _ _ _
      | exact ih4 _ _ _ _
      | exact ih5 _ _ _
      | exact spec_CutLength.mono _ _ _ _
      | exact spec_reader_one.mono _ _ _ _
      | exact spec_reader_pick.mono _ _ _ _
      | exact LeO.none _
      | refine LeO.ite ?_ ?_
      | refine LeO.bind ?_ (fun _ => ?_)
    · intro y0 y1 y2 y3
      unfold spec_somePieces.j2
      repeat' first
      | (with_reducible exact ih0 _ _ _ _)
      | (with_reducible exact ih1 _ _ _ _ _)
      | (with_reducible exact ih2 _ _ _ _)
      | (with_reducible exact ih3 _ _ _)
      | (with_reducible exact ih4 _ _ _ _)
      | (with_reducible exact ih5 _ _ _)
      | (with_reducible exact spec_CutLength.mono _ _ _ _)
      | (with_reducible exact spec_reader_one.mono _ _ _ _)
      | (with_reducible exact spec_reader_pick.mono _ _ _ _)
      | (with_reducible exact LeO.refl _)
      | (with_reducible exact LeO.none _)
      | (with_reducible refine LeO.ite ?_ ?_)
      | (with_reducible refine LeO.bind ?_ (fun _ => ?_))
      | exact ih0 _ _ _ _
      | exact ih1 _ _ _ _ _
      | exact ih2 _ _ _ _
      | exact ih3 _ _ _
      | exact ih4 _ _ _ _
      | exact ih5 _ _ _
      | exact spec_CutLength.mono _ _ _ _
      | exact spec_reader_one.mono _ _ _ _
      | exact spec_reader_pick.mono _ _ _ _
      | exact LeO.none _
      | refine LeO.ite ?_ ?_
      | refine LeO.bind ?_ (fun _ => ?_)
    · intro y0 y1 y2
      unfold spec_somePieces.j3
      repeat' first
      | (with_reducible exact ih0 _ _ _ _)
      | (with_reducible exact ih1 _ _ _ _ _)
      | (with_reducible exact ih2 _ _ _ _)
      | (with_reducible exact ih3 _ _ _)
      | (with_reducible exact ih4 _ _ _ _)
      | (with_reducible exact ih5 _ _ _)
      | (with_reducible exact spec_CutLength.mono _ _ _ _)
      | (with_reducible exact spec_reader_one.mono _ _ _ _)
      | (with_reducible exact spec_reader_pick.mono _ _ _ _)
      | (with_reducible exact LeO.refl _)
      | (with_reducible exact LeO.none _)
      | (with_reducible refine LeO.ite ?_ ?_)
      | (with_reducible refine LeO.bind ?_ (fun _ => ?_))
      | exact ih0 _ _ _ _
      | exact ih1 _ _ _ _ _
      | exact ih2 _ _ _ _
      | exact ih3 _ _ _
      | exact ih4 _ _ _ _
      | exact ih5 _ _ _
      | exact spec_CutLength.mono _ _ _ _
      | exact spec_reader_one.mono _ _ _ _
      | exact spec_reader_pick.mono _ _ _ _
      | exact LeO.none _
      | refine LeO.ite ?_ ?_
      | refine LeO.bind ?_ (fun _ => ?_)
    · intro y0 y1 y2 y3
      unfold spec_somePieces.j4
      repeat' first
      | (with_reducible exact ih0 _ _ _ _)
      | (with_reducible exact ih1 _ _ _ _ _)
      | (with_reducible exact ih2 _ _ _ _)
      | (with_reducible exact ih3 _ _ _)
      | (with_reducible exact ih4 _ _ _ _)
      | (with_reducible exact ih5 _ _ _)
      | (with_reducible exact spec_CutLength.mono _ _ _ _)
      | (with_reducible exact spec_reader_one.mono _ _ _ _)
      | (with_reducible exact spec_reader_pick.mono _ _ _ _)
      | (with_reducible exact LeO.refl _)
      | (with_reducible exact LeO.none _)
      | (with_reducible refine LeO.ite ?_ ?_)
      | (with_reducible refine LeO.bind ?_ (fun _ => ?_))
      | exact ih0 _ _ _ _
      | exact ih1 _ _ _ _ _
      | exact ih2 _ _ _ _
      | exact ih3 _ _ _
      | exact ih4 _ _ _ _
      | exact ih5 _ _ _
      | exact spec_CutLength.mono _ _ _ _
      | exact spec_reader_one.mono _ _ _ _
      | exact spec_reader_pick.mono _ _ _ _
      | exact LeO.none _
      | refine LeO.ite ?_ ?_
      | refine LeO.bind ?_ (fun _ => ?_)
    · intro y0 y1 y2
      unfold spec_somePieces.j5
      repeat' first
      | (with_reducible exact ih0 _ _ _ _)
      | (with_reducible exact ih1 _ _ _ _ _)
      | (with_reducible exact ih2 _ _ _ _)
      | (with_reducible exact ih3 _ _ _)
      | (with_reducible exact ih4 _ _ _ _)
      | (with_reducible exact ih5 _ _ _)
      | (with_reducible exact spec_CutLength.mono _ _ _ _)
      | (with_reducible exact spec_reader_one.mono _ _ _ _)
      | (with_reducible exact spec_reader_pick.mono _ _ _ _)
      | (with_reducible exact LeO.refl _)
      | (with_reducible exact LeO.none _)
      | (with_reducible refine LeO.ite ?_ ?_)
      | (with_reducible refine LeO.bind ?_ (fun _ => ?_))
      | exact ih0 _ _ _ _
      | exact ih1 _ _ _ _ _
      | exact ih2 _ _ _ _
      | exact ih3 _ _ _
      | exact ih4 _ _ _ _
      | exact ih5 _ _ _
      | exact spec_CutLength.mono _ _ _ _
      | exact spec_reader_one.mono _ _ _ _
      | exact spec_reader_pick.mono _ _ _ _
      | exact LeO.none _
      | refine LeO.ite ?_ ?_
      | refine LeO.bind ?_ (fun _ => ?_)
theorem spec_somePieces.mono : ∀ a0 a1 k, LeO (spec_somePieces.f k a0 a1) (spec_somePieces.f (k + 1) a0 a1) := by
  intro a0 a1 k
  obtain ⟨ih0, ih1, ih2, ih3, ih4, ih5⟩ := spec_somePieces.mono_l k
  unfold spec_somePieces.f
  repeat' first
      | (with_reducible exact ih0 _ _ _ _)
      | (with_reducible exact ih1 _ _ _ _ _)
      | (with_reducible exact ih2 _ _ _ _)
      | (with_reducible exact ih3 _ _ _)
      | (with_reducible exact ih4 _ _ _ _)
      | (with_reducible exact ih5 _ _ _)
      | (with_reducible exact spec_CutLength.mono _ _ _ _)
      | (with_reducible exact spec_reader_one.mono _ _ _ _)
      | (with_reducible exact spec_reader_pick.mono _ _ _ _)
      | (with_reducible exact LeO.refl _)
      | (with_reducible exact LeO.none _)
      | (with_reducible refine LeO.ite ?_ ?_)
      | (with_reducible refine LeO.bind ?_ (fun _ => ?_))
      | exact ih0 _ _ _ _
      | exact ih1 _ _ _ _ _
      | exact ih2 _ _ _ _
      | exact ih3 _ _ _
      | exact ih4 _ _ _ _
      | exact ih5 _ _ _
      | exact spec_CutLength.mono _ _ _ _
      | exact spec_reader_one.mono _ _ _ _
      | exact spec_reader_pick.mono _ _ _ _
      | exact LeO.none _
      | refine LeO.ite ?_ ?_
      | refine LeO.bind ?_ (fun _ => ?_)
def spec_somePieces.T15 : Bool × List (List Nat × List Nat) := (true, [([], []), ([], []), ([], []), ([1, 2], [1, 2]), ([0, 3], [0, 3]), ([], []), ([], []), ([6], [6]), ([5, 7], [5, 7]), ([4, 8, 4], [4, 8]), ([9, 9, 0, 1, 2, 3, 4, 5, 6, 7, 8, 9], [1, 5, 9])])
def spec_somePieces.B15 : List Nat := [0, 0, 0, 6, 15, 0, 0, 64, 224, 511, 1023]
theorem spec_somePieces.tab15 : rtab .any (opsOf Try.f56 15) = spec_somePieces.T15 := by kernel_rfl
theorem spec_somePieces.bits15 : waitsOk spec_somePieces.T15.2 spec_somePieces.B15 = true := by kernel_rfl
set_option maxHeartbeats 8000000 in
set_option maxRecDepth 100000 in
theorem spec_somePieces.calls (k : Nat) (g : Nat) (s0_0 : List Int) (s0_1 : Int) (r1 : List (S47)) (r2 : Int) (w0 w : World) (hI : IsS75 w0 w g s0_0 s0_1) (hB : Below w0.heap.size w0 w) (h : spec_somePieces.f k s0_0 s0_1 = some (r1, r2)) :
    Calls Try.prog 56 #[.pointer (some ⟨g, 0, none⟩)] w fun e w' => ∃ v0_ : Value, e = .returned (v0_) ∧ Kd.R k47 47 w' w.heap.size (fun _ => True) v0_ r1 ∧ IsS75 w0 w' g s0_0 r2 ∧ Below w0.heap.size w0 w' ∧ KeepBut w w' g none := by
  have hu47 := Try.underlying47
  have HI0 := Aside0.mk hI
  have HK := Aside0.mk (KeepBut.refl w g none)
  have HL := Aside0.mk hB.size
  clear hI
  have HW0 := Aside0.mk hB.size
  have HB := Aside0.mk hB
  clear hB
  have H : ((spec_reader_one.f k s0_0 s0_1 (([20, 12, 30, 8, 1, 60] : List Int))).bind fun bt180 => ((spec_reader_one.f k s0_0 bt180.2 (([4, 8, 6, 3, 12] : List Int))).bind fun bt185 => ((spec_reader_one.f k s0_0 bt185.2 (([1, 2, 1, 3] : List Int))).bind fun bt190 => ((spec_CutLength.f k bt180.1 bt185.1 bt190.1).bind fun bt192 => ((some (([] : List (S47)) : List (S47))).bind fun y196 => (if y196.length + bt192.1.length < 5864062014805 then ((spec_reader_one.f k s0_0 bt190.2 (([0, 2, 4, 1] : List Int))).bind fun bt205 => (spec_somePieces.l0 k (y196 ++ bt192.1) bt205.1 s0_0 bt205.2)) else (none))))))) = some (r1, r2) := h
  clear h
  obtain ⟨y177, hy177⟩ : ∃ y_ : List Int, y_ = (([20, 12, 30, 8, 1, 60] : List Int)) := ⟨_, rfl⟩
  replace H : ((spec_reader_one.f k s0_0 s0_1 y177).bind fun bt180 => ((spec_reader_one.f k s0_0 bt180.2 (([4, 8, 6, 3, 12] : List Int))).bind fun bt185 => ((spec_reader_one.f k s0_0 bt185.2 (([1, 2, 1, 3] : List Int))).bind fun bt190 => ((spec_CutLength.f k bt180.1 bt185.1 bt190.1).bind fun bt192 => ((some (([] : List (S47)) : List (S47))).bind fun y196 => (if y196.length + bt192.1.length < 5864062014805 then ((spec_reader_one.f k s0_0 bt190.2 (([0, 2, 4, 1] : List Int))).bind fun bt205 => (spec_somePieces.l0 k (y196 ++ bt192.1) bt205.1 s0_0 bt205.2)) else (none))))))) = some (r1, r2) := by first | (rw [hy177]; with_reducible exact H) | (have H2_ := (Option.bind_some _ _).symm.trans H; rw [hy177]; with_reducible exact H2_) | (have H2_ := (Option.bind_some _ _).symm.trans H; with_reducible exact H2_) | with_reducible exact H | (rw [hy177]; exact H) | exact H
  have Ny177 := Aside0.mk hy177
  clear hy177
  replace H := Option.bind_eq_some_iff.mp H
  obtain ⟨⟨t180, t181⟩, A20, H⟩ := H
  replace H : ((spec_reader_one.f k s0_0 t181 (([4, 8, 6, 3, 12] : List Int))).bind fun bt185 => ((spec_reader_one.f k s0_0 bt185.2 (([1, 2, 1, 3] : List Int))).bind fun bt190 => ((spec_CutLength.f k t180 bt185.1 bt190.1).bind fun bt192 => ((some (([] : List (S47)) : List (S47))).bind fun y196 => (if y196.length + bt192.1.length < 5864062014805 then ((spec_reader_one.f k s0_0 bt190.2 (([0, 2, 4, 1] : List Int))).bind fun bt205 => (spec_somePieces.l0 k (y196 ++ bt192.1) bt205.1 s0_0 bt205.2)) else (none)))))) = some (r1, r2) := H
  have A2 := Aside0.mk A20
  clear A20
  obtain ⟨y182, hy182⟩ : ∃ y_ : List Int, y_ = (([4, 8, 6, 3, 12] : List Int)) := ⟨_, rfl⟩
  replace H : ((spec_reader_one.f k s0_0 t181 y182).bind fun bt185 => ((spec_reader_one.f k s0_0 bt185.2 (([1, 2, 1, 3] : List Int))).bind fun bt190 => ((spec_CutLength.f k t180 bt185.1 bt190.1).bind fun bt192 => ((some (([] : List (S47)) : List (S47))).bind fun y196 => (if y196.length + bt192.1.length < 5864062014805 then ((spec_reader_one.f k s0_0 bt190.2 (([0, 2, 4, 1] : List Int))).bind fun bt205 => (spec_somePieces.l0 k (y196 ++ bt192.1) bt205.1 s0_0 bt205.2)) else (none)))))) = some (r1, r2) := by first | (rw [hy182]; with_reducible exact H) | (have H2_ := (Option.bind_some _ _).symm.trans H; rw [hy182]; with_reducible exact H2_) | (have H2_ := (Option.bind_some _ _).symm.trans H; with_reducible exact H2_) | with_reducible exact H | (rw [hy182]; exact H) | exact H
  have Ny182 := Aside0.mk hy182
  clear hy182
  replace H := Option.bind_eq_some_iff.mp H
  obtain ⟨⟨t185, t186⟩, A30, H⟩ := H
  replace H : ((spec_reader_one.f k s0_0 t186 (([1, 2, 1, 3] : List Int))).bind fun bt190 => ((spec_CutLength.f k t180 t185 bt190.1).bind fun bt192 => ((some (([] : List (S47)) : List (S47))).bind fun y196 => (if y196.length + bt192.1.length < 5864062014805 then ((spec_reader_one.f k s0_0 bt190.2 (([0, 2, 4, 1] : List Int))).bind fun bt205 => (spec_somePieces.l0 k (y196 ++ bt192.1) bt205.1 s0_0 bt205.2)) else (none))))) = some (r1, r2) := H
  have A3 := Aside0.mk A30
  clear A30
  obtain ⟨y187, hy187⟩ : ∃ y_ : List Int, y_ = (([1, 2, 1, 3] : List Int)) := ⟨_, rfl⟩
  replace H : ((spec_reader_one.f k s0_0 t186 y187).bind fun bt190 => ((spec_CutLength.f k t180 t185 bt190.1).bind fun bt192 => ((some (([] : List (S47)) : List (S47))).bind fun y196 => (if y196.length + bt192.1.length < 5864062014805 then ((spec_reader_one.f k s0_0 bt190.2 (([0, 2, 4, 1] : List Int))).bind fun bt205 => (spec_somePieces.l0 k (y196 ++ bt192.1) bt205.1 s0_0 bt205.2)) else (none))))) = some (r1, r2) := by first | (rw [hy187]; with_reducible exact H) | (have H2_ := (Option.bind_some _ _).symm.trans H; rw [hy187]; with_reducible exact H2_) | (have H2_ := (Option.bind_some _ _).symm.trans H; with_reducible exact H2_) | with_reducible exact H | (rw [hy187]; exact H) | exact H
  have Ny187 := Aside0.mk hy187
  clear hy187
  replace H := Option.bind_eq_some_iff.mp H
  obtain ⟨⟨t190, t191⟩, A40, H⟩ := H
  replace H : ((spec_CutLength.f k t180 t185 t190).bind fun bt192 => ((some (([] : List (S47)) : List (S47))).bind fun y196 => (if y196.length + bt192.1.length < 5864062014805 then ((spec_reader_one.f k s0_0 t191 (([0, 2, 4, 1] : List Int))).bind fun bt205 => (spec_somePieces.l0 k (y196 ++ bt192.1) bt205.1 s0_0 bt205.2)) else (none)))) = some (r1, r2) := H
  have A4 := Aside0.mk A40
  clear A40
  replace H := Option.bind_eq_some_iff.mp H
  obtain ⟨⟨t192, t193⟩, A50, H⟩ := H
  replace H : ((some (([] : List (S47)) : List (S47))).bind fun y196 => (if y196.length + t192.length < 5864062014805 then ((spec_reader_one.f k s0_0 t191 (([0, 2, 4, 1] : List Int))).bind fun bt205 => (spec_somePieces.l0 k (y196 ++ t192) bt205.1 s0_0 bt205.2)) else (none))) = some (r1, r2) := H
  have A5 := Aside0.mk A50
  clear A50
  obtain ⟨y196, hy196⟩ : ∃ y_ : List (S47), y_ = (([] : List (S47))) := ⟨_, rfl⟩
  replace H : (if y196.length + t192.length < 5864062014805 then ((spec_reader_one.f k s0_0 t191 (([0, 2, 4, 1] : List Int))).bind fun bt205 => (spec_somePieces.l0 k (y196 ++ t192) bt205.1 s0_0 bt205.2)) else (none)) = some (r1, r2) := by first | (rw [hy196]; with_reducible exact H) | (have H2_ := (Option.bind_some _ _).symm.trans H; rw [hy196]; with_reducible exact H2_) | (have H2_ := (Option.bind_some _ _).symm.trans H; with_reducible exact H2_) | with_reducible exact H | (rw [hy196]; exact H) | exact H
  have Ny196 := Aside0.mk hy196
  clear hy196
  by_cases c6 : y196.length + t192.length < 5864062014805
  · rw [if_pos c6] at H
    have LMc6 := Aside0.mk c6
    clear c6
    obtain ⟨y199, hy199⟩ : ∃ y_ : List (S47), y_ = (y196 ++ t192) := ⟨_, rfl⟩
    replace H : ((spec_reader_one.f k s0_0 t191 (([0, 2, 4, 1] : List Int))).bind fun bt205 => (spec_somePieces.l0 k y199 bt205.1 s0_0 bt205.2)) = some (r1, r2) := by first | (rw [hy199]; with_reducible exact H) | (have H2_ := (Option.bind_some _ _).symm.trans H; rw [hy199]; with_reducible exact H2_) | (have H2_ := (Option.bind_some _ _).symm.trans H; with_reducible exact H2_) | with_reducible exact H | (rw [hy199]; exact H) | exact H
    have Ny199 := Aside0.mk hy199
    clear hy199
    obtain ⟨y202, hy202⟩ : ∃ y_ : List Int, y_ = (([0, 2, 4, 1] : List Int)) := ⟨_, rfl⟩
    replace H : ((spec_reader_one.f k s0_0 t191 y202).bind fun bt205 => (spec_somePieces.l0 k y199 bt205.1 s0_0 bt205.2)) = some (r1, r2) := by first | (rw [hy202]; with_reducible exact H) | (have H2_ := (Option.bind_some _ _).symm.trans H; rw [hy202]; with_reducible exact H2_) | (have H2_ := (Option.bind_some _ _).symm.trans H; with_reducible exact H2_) | with_reducible exact H | (rw [hy202]; exact H) | exact H
    have Ny202 := Aside0.mk hy202
    clear hy202
    replace H := Option.bind_eq_some_iff.mp H
    obtain ⟨⟨t205, t206⟩, A70, H⟩ := H
    replace H : (spec_somePieces.l0 k y199 t205 s0_0 t206) = some (r1, r2) := H
    have A7 := Aside0.mk A70
    clear A70
    have H' := Aside0.mk H
    clear H
    go_enter Try.func56, Try.ntmps56
    go_wp2_with (first | ((with_reducible refine gate_dst (N := 14) rfl ?_); (try (refine gate_guard (by rfl) ?_; dsimp only)); refine Kd.R_lit (Kd.int .i64) _ 3 ?hg (N := 14) ?hd (xs := ([20, 12, 30, 8, 1, 60] : List Int)) (inner := [.int .i64 20, .int .i64 12, .int .i64 30, .int .i64 8, .int .i64 1, .int .i64 60]) (ok := fun _ => True) (okp := fun _ => True) ?hr ?hp (fun _ hk => hk) trivial (Below.refl _ _) (Nat.le_refl _) (by simp) ?_; (case hd => rfl); (case hg => rfl); (case hr => first | (go_simp; done) | (go_simp; rfl)); (case hp => exact (Reps.one (show Kd.M (Kd.int .i64) _ _ _ 20 [.int .i64 20] from rfl) (Reps.one (show Kd.M (Kd.int .i64) _ _ _ 12 [.int .i64 12] from rfl) (Reps.one (show Kd.M (Kd.int .i64) _ _ _ 30 [.int .i64 30] from rfl) (Reps.one (show Kd.M (Kd.int .i64) _ _ _ 8 [.int .i64 8] from rfl) (Reps.one (show Kd.M (Kd.int .i64) _ _ _ 1 [.int .i64 1] from rfl) (Reps.one (show Kd.M (Kd.int .i64) _ _ _ 60 [.int .i64 60] from rfl) (Reps.none _ _)))))))); intro v178 w8 ho9 hb hg_ hnew_; clear hg_ hnew_; (first | rw [← Ny177.out] at ho9 | (simp only [Int.reduceToNat] at ho9; rw [← Ny177.out] at ho9)); have n0_ := Aside0.mk (Kd.R_lower ho9 (keep_size (w := w) (g := g) (row := none) (by repeat (first | (with_reducible first | exact HK.out | apply KeepBut.set_ | apply keep_drewN | apply keep_drew | apply keep_alloc) | exact HK.out)))); have n1_ := Aside0.mk (IsS75.below (by repeat (first | (with_reducible first | exact HI0.out | apply IsS75.alloc | apply IsS75.drewN | apply IsS75.drew | apply IsS75.set_1) | exact HI0.out)) hb); have n2_ := Aside0.mk (KeepBut.trans (by repeat (first | (with_reducible first | exact HK.out | apply KeepBut.set_ | apply keep_drewN | apply keep_drew | apply keep_alloc) | exact HK.out)) (KeepBut.of_below hb g none) (.inl rfl)); have n3_ := Aside0.mk (below_step (by repeat (first | (with_reducible first | exact HB.out | apply below_alloc | apply pw_below_drewN | apply below_drew1 | refine below_set ?_ (IsS75.ge HI0.out)) | exact HB.out)) hb); clear HI0; clear HK; clear HB; have HO179 := n0_; have HI0 := n1_; have HK := n2_; have HB := n3_; clear n0_ n1_ n2_ n3_; clear hb ho9; obtain ⟨Ao10, co10, eo10⟩ := Kd.R_slice HO179.out; subst eo10) | ((with_reducible refine gate_callee (f := 54) rfl ?_); refine goesL_ (some 15) rfl rfl Try.func54 (by kernel_rfl) rfl #[.pointer (some ⟨g, 0, none⟩), .slice Ao10 y177.length co10] rfl (by (try simp only [List.map_toArray, List.map_cons, List.map_nil]); first | done | rfl | (simp only [List.length_drop, List.length_take]; rfl)) ?_; (with_reducible refine (spec_reader_one.calls k g s0_0 s0_1 _ _ y177 t180 t181 w0 _ ?side1 ?side2 ?side3 ?side4 ?side5 A2.out).mono ?_); (case side1 => repeat (first | (with_reducible first | exact HI0.out | apply IsS75.alloc | apply IsS75.drewN | apply IsS75.drew | apply IsS75.set_1) | exact HI0.out)); (case side2 => repeat (first | (with_reducible first | exact HB.out | apply below_alloc | apply pw_below_drewN | apply below_drew1 | refine below_set ?_ (IsS75.ge HI0.out)) | exact HB.out)); (case side3 => repeat (first | exact (Kd.R_reads' HO179.out).2.2 | (with_reducible refine Kd.C_alloc ?_ _) | (with_reducible refine Kd.C_drewN ?_ _) | (with_reducible refine Kd.C_drew ?_))); (case side4 => exact (Kd.R_reads' HO179.out).2.1); (case side5 => exact far_slice (IsS75.own_ne HI0.out HO179.out (by decide))); rintro e w11 ⟨rfl, hi, hb, hk⟩; refine ⟨_, rfl, ?_⟩; have n0_ := Aside0.mk (Kd.R_mono (Kd.R_keep (IsS75.apart (show IsS75 w0 _ g s0_0 s0_1 from by repeat (first | (with_reducible first | exact HI0.out | apply IsS75.alloc | apply IsS75.drewN | apply IsS75.drew | apply IsS75.set_1) | exact HI0.out)) (by (with_reducible repeat (first | apply Kd.R_alloc | apply Kd.R_drewN | apply Kd.R_drew)); exact HO179.out) (by decide)) hk (fun _ h => h.2)) (fun _ h => h.1)); have n1_ := Aside0.mk (KeepBut.trans (by repeat (first | (with_reducible first | exact HK.out | apply KeepBut.set_ | apply keep_drewN | apply keep_drew | apply keep_alloc) | exact HK.out)) hk (.inl rfl)); have n2_ := Aside0.mk (hb); have n3_ := Aside0.mk (hi); clear HO179; clear HK; clear HB; clear HI0; have HO179 := n0_; have HK := n1_; have HB := n2_; have HI0 := n3_; clear n0_ n1_ n2_ n3_; (try clear hb); (try clear hb2); (try clear hk); (try clear hi)) | ((with_reducible refine gate_dst (N := 17) rfl ?_); (try (refine gate_guard (by rfl) ?_; dsimp only)); refine Kd.R_lit (Kd.int .i64) _ 3 ?hg (N := 17) ?hd (xs := ([4, 8, 6, 3, 12] : List Int)) (inner := [.int .i64 4, .int .i64 8, .int .i64 6, .int .i64 3, .int .i64 12]) (ok := fun _ => True) (okp := fun _ => True) ?hr ?hp (fun _ hk => hk) trivial (Below.refl _ _) (Nat.le_refl _) (by simp) ?_; (case hd => rfl); (case hg => rfl); (case hr => first | (go_simp; done) | (go_simp; rfl)); (case hp => exact (Reps.one (show Kd.M (Kd.int .i64) _ _ _ 4 [.int .i64 4] from rfl) (Reps.one (show Kd.M (Kd.int .i64) _ _ _ 8 [.int .i64 8] from rfl) (Reps.one (show Kd.M (Kd.int .i64) _ _ _ 6 [.int .i64 6] from rfl) (Reps.one (show Kd.M (Kd.int .i64) _ _ _ 3 [.int .i64 3] from rfl) (Reps.one (show Kd.M (Kd.int .i64) _ _ _ 12 [.int .i64 12] from rfl) (Reps.none _ _))))))); intro v183 w12 ho13 hb hg_ hnew_; clear hg_ hnew_; (first | rw [← Ny182.out] at ho13 | (simp only [Int.reduceToNat] at ho13; rw [← Ny182.out] at ho13)); have n0_ := Aside0.mk (Kd.R_elder' (by (with_reducible repeat (first | apply Kd.R_alloc | apply Kd.R_drewN | apply Kd.R_drew)); exact HO179.out) (Kd.R_base ho13) hb); have n1_ := Aside0.mk (Kd.R_lower (Kd.R_new' ho13 (Kd.R_lt (by (with_reducible repeat (first | apply Kd.R_alloc | apply Kd.R_drewN | apply Kd.R_drew)); exact HO179.out))) (keep_size (w := w) (g := g) (row := none) (by repeat (first | (with_reducible first | exact HK.out | apply KeepBut.set_ | apply keep_drewN | apply keep_drew | apply keep_alloc) | exact HK.out)))); have n2_ := Aside0.mk (IsS75.below (by repeat (first | (with_reducible first | exact HI0.out | apply IsS75.alloc | apply IsS75.drewN | apply IsS75.drew | apply IsS75.set_1) | exact HI0.out)) hb); have n3_ := Aside0.mk (KeepBut.trans (by repeat (first | (with_reducible first | exact HK.out | apply KeepBut.set_ | apply keep_drewN | apply keep_drew | apply keep_alloc) | exact HK.out)) (KeepBut.of_below hb g none) (.inl rfl)); have n4_ := Aside0.mk (below_step (by repeat (first | (with_reducible first | exact HB.out | apply below_alloc | apply pw_below_drewN | apply below_drew1 | refine below_set ?_ (IsS75.ge HI0.out)) | exact HB.out)) hb); clear HO179; clear HI0; clear HK; clear HB; have HO179 := n0_; have HO184 := n1_; have HI0 := n2_; have HK := n3_; have HB := n4_; clear n0_ n1_ n2_ n3_ n4_; clear hb ho13; obtain ⟨Ao14, co14, eo14⟩ := Kd.R_slice HO184.out; subst eo14) | ((with_reducible refine gate_callee (f := 54) rfl ?_); refine goesL_ (some 18) rfl rfl Try.func54 (by kernel_rfl) rfl #[.pointer (some ⟨g, 0, none⟩), .slice Ao14 y182.length co14] rfl (by (try simp only [List.map_toArray, List.map_cons, List.map_nil]); first | done | rfl | (simp only [List.length_drop, List.length_take]; rfl)) ?_; (with_reducible refine (spec_reader_one.calls k g s0_0 t181 _ _ y182 t185 t186 w0 _ ?side1 ?side2 ?side3 ?side4 ?side5 A3.out).mono ?_); (case side1 => repeat (first | (with_reducible first | exact HI0.out | apply IsS75.alloc | apply IsS75.drewN | apply IsS75.drew | apply IsS75.set_1) | exact HI0.out)); (case side2 => repeat (first | (with_reducible first | exact HB.out | apply below_alloc | apply pw_below_drewN | apply below_drew1 | refine below_set ?_ (IsS75.ge HI0.out)) | exact HB.out)); (case side3 => repeat (first | exact (Kd.R_reads' HO184.out).2.2 | (with_reducible refine Kd.C_alloc ?_ _) | (with_reducible refine Kd.C_drewN ?_ _) | (with_reducible refine Kd.C_drew ?_))); (case side4 => exact (Kd.R_reads' HO184.out).2.1); (case side5 => exact far_slice (IsS75.own_ne HI0.out HO184.out (by decide))); rintro e w15 ⟨rfl, hi, hb, hk⟩; refine ⟨_, rfl, ?_⟩; have n0_ := Aside0.mk (Kd.R_mono (Kd.R_keep (IsS75.apart (show IsS75 w0 _ g s0_0 t181 from by repeat (first | (with_reducible first | exact HI0.out | apply IsS75.alloc | apply IsS75.drewN | apply IsS75.drew | apply IsS75.set_1) | exact HI0.out)) (by (with_reducible repeat (first | apply Kd.R_alloc | apply Kd.R_drewN | apply Kd.R_drew)); exact HO179.out) (by decide)) hk (fun _ h => h.2)) (fun _ h => h.1)); have n1_ := Aside0.mk (Kd.R_mono (Kd.R_keep (IsS75.apart (show IsS75 w0 _ g s0_0 t181 from by repeat (first | (with_reducible first | exact HI0.out | apply IsS75.alloc | apply IsS75.drewN | apply IsS75.drew | apply IsS75.set_1) | exact HI0.out)) (by (with_reducible repeat (first | apply Kd.R_alloc | apply Kd.R_drewN | apply Kd.R_drew)); exact HO184.out) (by decide)) hk (fun _ h => h.2)) (fun _ h => h.1)); have n2_ := Aside0.mk (KeepBut.trans (by repeat (first | (with_reducible first | exact HK.out | apply KeepBut.set_ | apply keep_drewN | apply keep_drew | apply keep_alloc) | exact HK.out)) hk (.inl rfl)); have n3_ := Aside0.mk (hb); have n4_ := Aside0.mk (hi); clear HO179; clear HO184; clear HK; clear HB; clear HI0; have HO179 := n0_; have HO184 := n1_; have HK := n2_; have HB := n3_; have HI0 := n4_; clear n0_ n1_ n2_ n3_ n4_; (try clear hb); (try clear hb2); (try clear hk); (try clear hi)) | ((with_reducible refine gate_dst (N := 23) rfl ?_); (try (refine gate_guard (by rfl) ?_; dsimp only)); refine Kd.R_lit (Kd.int .i64) _ 3 ?hg (N := 23) ?hd (xs := ([1, 2, 1, 3] : List Int)) (inner := [.int .i64 1, .int .i64 2, .int .i64 1, .int .i64 3]) (ok := fun _ => True) (okp := fun _ => True) ?hr ?hp (fun _ hk => hk) trivial (Below.refl _ _) (Nat.le_refl _) (by simp) ?_; (case hd => rfl); (case hg => rfl); (case hr => first | (go_simp; done) | (go_simp; rfl)); (case hp => exact (Reps.one (show Kd.M (Kd.int .i64) _ _ _ 1 [.int .i64 1] from rfl) (Reps.one (show Kd.M (Kd.int .i64) _ _ _ 2 [.int .i64 2] from rfl) (Reps.one (show Kd.M (Kd.int .i64) _ _ _ 1 [.int .i64 1] from rfl) (Reps.one (show Kd.M (Kd.int .i64) _ _ _ 3 [.int .i64 3] from rfl) (Reps.none _ _)))))); intro v188 w16 ho17 hb hg_ hnew_; clear hg_ hnew_; (first | rw [← Ny187.out] at ho17 | (simp only [Int.reduceToNat] at ho17; rw [← Ny187.out] at ho17)); have n0_ := Aside0.mk (Kd.R_elder' (by (with_reducible repeat (first | apply Kd.R_alloc | apply Kd.R_drewN | apply Kd.R_drew)); exact HO179.out) (Kd.R_base ho17) hb); have n1_ := Aside0.mk (Kd.R_elder' (by (with_reducible repeat (first | apply Kd.R_alloc | apply Kd.R_drewN | apply Kd.R_drew)); exact HO184.out) (Kd.R_base ho17) hb); have n2_ := Aside0.mk (Kd.R_lower (Kd.R_new' (Kd.R_new' ho17 (Kd.R_lt (by (with_reducible repeat (first | apply Kd.R_alloc | apply Kd.R_drewN | apply Kd.R_drew)); exact HO179.out))) (Kd.R_lt (by (with_reducible repeat (first | apply Kd.R_alloc | apply Kd.R_drewN | apply Kd.R_drew)); exact HO184.out))) (keep_size (w := w) (g := g) (row := none) (by repeat (first | (with_reducible first | exact HK.out | apply KeepBut.set_ | apply keep_drewN | apply keep_drew | apply keep_alloc) | exact HK.out)))); have n3_ := Aside0.mk (IsS75.below (by repeat (first | (with_reducible first | exact HI0.out | apply IsS75.alloc | apply IsS75.drewN | apply IsS75.drew | apply IsS75.set_1) | exact HI0.out)) hb); have n4_ := Aside0.mk (KeepBut.trans (by repeat (first | (with_reducible first | exact HK.out | apply KeepBut.set_ | apply keep_drewN | apply keep_drew | apply keep_alloc) | exact HK.out)) (KeepBut.of_below hb g none) (.inl rfl)); have n5_ := Aside0.mk (below_step (by repeat (first | (with_reducible first | exact HB.out | apply below_alloc | apply pw_below_drewN | apply below_drew1 | refine below_set ?_ (IsS75.ge HI0.out)) | exact HB.out)) hb); clear HO179; clear HO184; clear HI0; clear HK; clear HB; have HO179 := n0_; have HO184 := n1_; have HO189 := n2_; have HI0 := n3_; have HK := n4_; have HB := n5_; clear n0_ n1_ n2_ n3_ n4_ n5_; clear hb ho17; obtain ⟨Ao18, co18, eo18⟩ := Kd.R_slice HO189.out; subst eo18) | ((with_reducible refine gate_callee (f := 54) rfl ?_); refine goesL_ (some 24) rfl rfl Try.func54 (by kernel_rfl) rfl #[.pointer (some ⟨g, 0, none⟩), .slice Ao18 y187.length co18] rfl (by (try simp only [List.map_toArray, List.map_cons, List.map_nil]); first | done | rfl | (simp only [List.length_drop, List.length_take]; rfl)) ?_; (with_reducible refine (spec_reader_one.calls k g s0_0 t186 _ _ y187 t190 t191 w0 _ ?side1 ?side2 ?side3 ?side4 ?side5 A4.out).mono ?_); (case side1 => repeat (first | (with_reducible first | exact HI0.out | apply IsS75.alloc | apply IsS75.drewN | apply IsS75.drew | apply IsS75.set_1) | exact HI0.out)); (case side2 => repeat (first | (with_reducible first | exact HB.out | apply below_alloc | apply pw_below_drewN | apply below_drew1 | refine below_set ?_ (IsS75.ge HI0.out)) | exact HB.out)); (case side3 => repeat (first | exact (Kd.R_reads' HO189.out).2.2 | (with_reducible refine Kd.C_alloc ?_ _) | (with_reducible refine Kd.C_drewN ?_ _) | (with_reducible refine Kd.C_drew ?_))); (case side4 => exact (Kd.R_reads' HO189.out).2.1); (case side5 => exact far_slice (IsS75.own_ne HI0.out HO189.out (by decide))); rintro e w19 ⟨rfl, hi, hb, hk⟩; refine ⟨_, rfl, ?_⟩; have n0_ := Aside0.mk (Kd.R_mono (Kd.R_keep (IsS75.apart (show IsS75 w0 _ g s0_0 t186 from by repeat (first | (with_reducible first | exact HI0.out | apply IsS75.alloc | apply IsS75.drewN | apply IsS75.drew | apply IsS75.set_1) | exact HI0.out)) (by (with_reducible repeat (first | apply Kd.R_alloc | apply Kd.R_drewN | apply Kd.R_drew)); exact HO179.out) (by decide)) hk (fun _ h => h.2)) (fun _ h => h.1)); have n1_ := Aside0.mk (Kd.R_mono (Kd.R_keep (IsS75.apart (show IsS75 w0 _ g s0_0 t186 from by repeat (first | (with_reducible first | exact HI0.out | apply IsS75.alloc | apply IsS75.drewN | apply IsS75.drew | apply IsS75.set_1) | exact HI0.out)) (by (with_reducible repeat (first | apply Kd.R_alloc | apply Kd.R_drewN | apply Kd.R_drew)); exact HO184.out) (by decide)) hk (fun _ h => h.2)) (fun _ h => h.1)); have n2_ := Aside0.mk (Kd.R_mono (Kd.R_keep (IsS75.apart (show IsS75 w0 _ g s0_0 t186 from by repeat (first | (with_reducible first | exact HI0.out | apply IsS75.alloc | apply IsS75.drewN | apply IsS75.drew | apply IsS75.set_1) | exact HI0.out)) (by (with_reducible repeat (first | apply Kd.R_alloc | apply Kd.R_drewN | apply Kd.R_drew)); exact HO189.out) (by decide)) hk (fun _ h => h.2)) (fun _ h => h.1)); have n3_ := Aside0.mk (KeepBut.trans (by repeat (first | (with_reducible first | exact HK.out | apply KeepBut.set_ | apply keep_drewN | apply keep_drew | apply keep_alloc) | exact HK.out)) hk (.inl rfl)); have n4_ := Aside0.mk (hb); have n5_ := Aside0.mk (hi); clear HO179; clear HO184; clear HO189; clear HK; clear HB; clear HI0; have HO179 := n0_; have HO184 := n1_; have HO189 := n2_; have HK := n3_; have HB := n4_; have HI0 := n5_; clear n0_ n1_ n2_ n3_ n4_ n5_; (try clear hb); (try clear hb2); (try clear hk); (try clear hi)) | ((with_reducible refine gate_callee (f := 25) rfl ?_); refine goesL_ (some 25) rfl rfl Try.func25 (by kernel_rfl) rfl #[.int .i64 t180, .int .i64 t185, .int .i64 t190] rfl (by (try simp only [List.map_toArray, List.map_cons, List.map_nil]); first | done | rfl | (simp only [List.length_drop, List.length_take]; rfl)) ?_; (with_reducible refine (spec_CutLength.calls k t180 t185 t190 t192 t193 _ A5.out).mono ?_); rintro e w20 ⟨v194, rfl, ho0, hb⟩; refine ⟨_, rfl, ?_⟩; have n0_ := Aside0.mk (Kd.R_below (by (with_reducible repeat (first | apply Kd.R_alloc | apply Kd.R_drewN | apply Kd.R_drew)); exact HO179.out) hb); have n1_ := Aside0.mk (Kd.R_below (by (with_reducible repeat (first | apply Kd.R_alloc | apply Kd.R_drewN | apply Kd.R_drew)); exact HO184.out) hb); have n2_ := Aside0.mk (Kd.R_below (by (with_reducible repeat (first | apply Kd.R_alloc | apply Kd.R_drewN | apply Kd.R_drew)); exact HO189.out) hb); have n3_ := Aside0.mk (Kd.R_lower ho0 (keep_size (w := w) (g := g) (row := none) (by repeat (first | (with_reducible first | exact HK.out | apply KeepBut.set_ | apply keep_drewN | apply keep_drew | apply keep_alloc) | exact HK.out)))); have n4_ := Aside0.mk (IsS75.below (by repeat (first | (with_reducible first | exact HI0.out | apply IsS75.alloc | apply IsS75.drewN | apply IsS75.drew | apply IsS75.set_1) | exact HI0.out)) hb); have n5_ := Aside0.mk (KeepBut.trans (by repeat (first | (with_reducible first | exact HK.out | apply KeepBut.set_ | apply keep_drewN | apply keep_drew | apply keep_alloc) | exact HK.out)) (KeepBut.of_below hb g none) (.inl rfl)); have n6_ := Aside0.mk (below_step (by repeat (first | (with_reducible first | exact HB.out | apply below_alloc | apply pw_below_drewN | apply below_drew1 | refine below_set ?_ (IsS75.ge HI0.out)) | exact HB.out)) hb); clear HO179; clear HO184; clear HO189; clear HI0; clear HK; clear HB; have HO179 := n0_; have HO184 := n1_; have HO189 := n2_; have HO195 := n3_; have HI0 := n4_; have HK := n5_; have HB := n6_; clear n0_ n1_ n2_ n3_ n4_ n5_ n6_; (try clear hb); (try clear hb2); (try clear hk); (try clear hi); (try clear ho0)) | ((with_reducible refine gate_dst (N := 28) rfl ?_); (try (refine gate_guard (by rfl) ?_; dsimp only)); refine Kd.R_lit k47 _ 47 ?hg (N := 28) ?hd (xs := ([] : List (S47))) (inner := []) (ok := fun _ => True) (okp := fun _ => True) ?hr ?hp (fun _ hk => hk) trivial (Below.refl _ _) (Nat.le_refl _) (by simp) ?_; (case hd => rfl); (case hg => rfl); (case hr => first | (go_simp; done) | (go_simp; rfl)); (case hp => exact (Reps.none _ _)); intro v197 w21 ho22 hb hg_ hnew_; clear hg_ hnew_; (first | rw [← Ny196.out] at ho22 | (simp only [Int.reduceToNat] at ho22; rw [← Ny196.out] at ho22)); have n0_ := Aside0.mk (Kd.R_below (by (with_reducible repeat (first | apply Kd.R_alloc | apply Kd.R_drewN | apply Kd.R_drew)); exact HO179.out) hb); have n1_ := Aside0.mk (Kd.R_below (by (with_reducible repeat (first | apply Kd.R_alloc | apply Kd.R_drewN | apply Kd.R_drew)); exact HO184.out) hb); have n2_ := Aside0.mk (Kd.R_below (by (with_reducible repeat (first | apply Kd.R_alloc | apply Kd.R_drewN | apply Kd.R_drew)); exact HO189.out) hb); have n3_ := Aside0.mk (Kd.R_elder' (by (with_reducible repeat (first | apply Kd.R_alloc | apply Kd.R_drewN | apply Kd.R_drew)); exact HO195.out) (Kd.R_base ho22) hb); have n4_ := Aside0.mk (Kd.R_lower (Kd.R_new' ho22 (Kd.R_lt (by (with_reducible repeat (first | apply Kd.R_alloc | apply Kd.R_drewN | apply Kd.R_drew)); exact HO195.out))) (keep_size (w := w) (g := g) (row := none) (by repeat (first | (with_reducible first | exact HK.out | apply KeepBut.set_ | apply keep_drewN | apply keep_drew | apply keep_alloc) | exact HK.out)))); have n5_ := Aside0.mk (IsS75.below (by repeat (first | (with_reducible first | exact HI0.out | apply IsS75.alloc | apply IsS75.drewN | apply IsS75.drew | apply IsS75.set_1) | exact HI0.out)) hb); have n6_ := Aside0.mk (KeepBut.trans (by repeat (first | (with_reducible first | exact HK.out | apply KeepBut.set_ | apply keep_drewN | apply keep_drew | apply keep_alloc) | exact HK.out)) (KeepBut.of_below hb g none) (.inl rfl)); have n7_ := Aside0.mk (below_step (by repeat (first | (with_reducible first | exact HB.out | apply below_alloc | apply pw_below_drewN | apply below_drew1 | refine below_set ?_ (IsS75.ge HI0.out)) | exact HB.out)) hb); clear HO179; clear HO184; clear HO189; clear HO195; clear HI0; clear HK; clear HB; have HO179 := n0_; have HO184 := n1_; have HO189 := n2_; have HO195 := n3_; have HO198 := n4_; have HI0 := n5_; have HK := n6_; have HB := n7_; clear n0_ n1_ n2_ n3_ n4_ n5_ n6_ n7_; clear hb ho22; obtain ⟨Ao24, co24, eo24⟩ := Kd.R_slice HO195.out; subst eo24) | ((with_reducible refine gate_builtin (b := .append) (xs := #[.tmp 28, .tmp 29]) rfl ?_); (try (refine gate_guard (by rfl) ?_; dsimp only)); at_builtin; refine Kd.R_append_rows k47 w.heap.size rfl (.tmp 28) (.tmp 29) 25 47 (.agg #[(.int .i64 0), (.int .i64 0), (.bool false)]) 24 rfl Try.underlying25 info47 rfl (by decide) (by omega) v197 y196 t192 _ _ _ (fun k_ => some k_ ≠ (.slice Ao24 t192.length co24 : Value).ownBlock) (fun _ => False) rfl rfl ?aO ?aR (fun _ _ h => h) (fun _ h => h.elim) ?aF (Below.refl _ _) ?aS ?aL ?_; (case aR => repeat (first | exact (Kd.R_reads' HO195.out).2.2 | (with_reducible refine Kd.C_alloc ?_ _) | (with_reducible refine Kd.C_drewN ?_ _) | (with_reducible refine Kd.C_drew ?_))); (case aF => exact (fun k_ hk => Kd.fresh' (Kd.R_lt (by (with_reducible repeat (first | apply Kd.R_alloc | apply Kd.R_drewN | apply Kd.R_drew)); exact HO195.out)) k_ hk)); (case aO => exact (by (with_reducible repeat (first | apply Kd.R_alloc | apply Kd.R_drewN | apply Kd.R_drew)); exact Kd.R_mono HO198.out (fun _ hk => hk.2))); (case aS => exact (keep_size (w := w) (g := g) (row := none) (by repeat (first | (with_reducible first | exact HK.out | apply KeepBut.set_ | apply keep_drewN | apply keep_drew | apply keep_alloc) | exact HK.out)))); (case aL => have := LMc6.out; omega); intro v200 w23 ho hb hg hat; rw [← Ny199.out] at ho; have n0_ := Aside0.mk (IsS75.grown (by repeat (first | (with_reducible first | exact HI0.out | apply IsS75.alloc | apply IsS75.drewN | apply IsS75.drew | apply IsS75.set_1) | exact HI0.out)) hg (IsS75.own_ne HI0.out HO198.out (by decide))); have n1_ := Aside0.mk (Kd.R_over' (by (with_reducible repeat (first | apply Kd.R_alloc | apply Kd.R_drewN | apply Kd.R_drew)); exact HO179.out) (Kd.R_typed (by (with_reducible repeat (first | apply Kd.R_alloc | apply Kd.R_drewN | apply Kd.R_drew)); exact HO198.out)) (by decide) hg); have n2_ := Aside0.mk (Kd.R_over' (by (with_reducible repeat (first | apply Kd.R_alloc | apply Kd.R_drewN | apply Kd.R_drew)); exact HO184.out) (Kd.R_typed (by (with_reducible repeat (first | apply Kd.R_alloc | apply Kd.R_drewN | apply Kd.R_drew)); exact HO198.out)) (by decide) hg); have n3_ := Aside0.mk (Kd.R_over' (by (with_reducible repeat (first | apply Kd.R_alloc | apply Kd.R_drewN | apply Kd.R_drew)); exact HO189.out) (Kd.R_typed (by (with_reducible repeat (first | apply Kd.R_alloc | apply Kd.R_drewN | apply Kd.R_drew)); exact HO198.out)) (by decide) hg); have n4_ := Aside0.mk (Kd.R_after (ok := (fun _ => True)) (by (with_reducible repeat (first | apply Kd.R_alloc | apply Kd.R_drewN | apply Kd.R_drew)); exact HO195.out) hg hat); have n5_ := Aside0.mk (below_weaken (by repeat (first | (with_reducible first | exact HB.out | apply below_alloc | apply pw_below_drewN | apply below_drew1 | refine below_set ?_ (IsS75.ge HI0.out)) | exact HB.out)) HL.out hb); have n6_ := Aside0.mk (KeepBut.trans (by repeat (first | (with_reducible first | exact HK.out | apply KeepBut.set_ | apply keep_drewN | apply keep_drew | apply keep_alloc) | exact HK.out)) (KeepBut.of_grown hg g) (Kd.R_base2 HO198.out)); have n7_ := Aside0.mk (ho); clear HI0; clear HO179; clear HO184; clear HO189; clear HO195; clear HB; clear HK; clear HO198; have HI0 := n0_; have HO179 := n1_; have HO184 := n2_; have HO189 := n3_; have HO195 := n4_; have HB := n5_; have HK := n6_; have HO201 := n7_; clear n0_ n1_ n2_ n3_ n4_ n5_ n6_ n7_; clear ho hb hg hat) | ((with_reducible refine gate_dst (N := 32) rfl ?_); (try (refine gate_guard (by rfl) ?_; dsimp only)); refine Kd.R_lit (Kd.int .i64) _ 3 ?hg (N := 32) ?hd (xs := ([0, 2, 4, 1] : List Int)) (inner := [.int .i64 0, .int .i64 2, .int .i64 4, .int .i64 1]) (ok := fun _ => True) (okp := fun _ => True) ?hr ?hp (fun _ hk => hk) trivial (Below.refl _ _) (Nat.le_refl _) (by simp) ?_; (case hd => rfl); (case hg => rfl); (case hr => first | (go_simp; done) | (go_simp; rfl)); (case hp => exact (Reps.one (show Kd.M (Kd.int .i64) _ _ _ 0 [.int .i64 0] from rfl) (Reps.one (show Kd.M (Kd.int .i64) _ _ _ 2 [.int .i64 2] from rfl) (Reps.one (show Kd.M (Kd.int .i64) _ _ _ 4 [.int .i64 4] from rfl) (Reps.one (show Kd.M (Kd.int .i64) _ _ _ 1 [.int .i64 1] from rfl) (Reps.none _ _)))))); intro v203 w25 ho26 hb hg_ hnew_; clear hg_ hnew_; (first | rw [← Ny202.out] at ho26 | (simp only [Int.reduceToNat] at ho26; rw [← Ny202.out] at ho26)); have n0_ := Aside0.mk (Kd.R_elder' (by (with_reducible repeat (first | apply Kd.R_alloc | apply Kd.R_drewN | apply Kd.R_drew)); exact HO179.out) (Kd.R_base ho26) hb); have n1_ := Aside0.mk (Kd.R_elder' (by (with_reducible repeat (first | apply Kd.R_alloc | apply Kd.R_drewN | apply Kd.R_drew)); exact HO184.out) (Kd.R_base ho26) hb); have n2_ := Aside0.mk (Kd.R_elder' (by (with_reducible repeat (first | apply Kd.R_alloc | apply Kd.R_drewN | apply Kd.R_drew)); exact HO189.out) (Kd.R_base ho26) hb); have n3_ := Aside0.mk (Kd.R_below (by (with_reducible repeat (first | apply Kd.R_alloc | apply Kd.R_drewN | apply Kd.R_drew)); exact HO195.out) hb); have n4_ := Aside0.mk (Kd.R_below (by (with_reducible repeat (first | apply Kd.R_alloc | apply Kd.R_drewN | apply Kd.R_drew)); exact HO201.out) hb); have n5_ := Aside0.mk (Kd.R_lower (Kd.R_new' (Kd.R_new' (Kd.R_new' ho26 (Kd.R_lt (by (with_reducible repeat (first | apply Kd.R_alloc | apply Kd.R_drewN | apply Kd.R_drew)); exact HO179.out))) (Kd.R_lt (by (with_reducible repeat (first | apply Kd.R_alloc | apply Kd.R_drewN | apply Kd.R_drew)); exact HO184.out))) (Kd.R_lt (by (with_reducible repeat (first | apply Kd.R_alloc | apply Kd.R_drewN | apply Kd.R_drew)); exact HO189.out))) (keep_size (w := w) (g := g) (row := none) (by repeat (first | (with_reducible first | exact HK.out | apply KeepBut.set_ | apply keep_drewN | apply keep_drew | apply keep_alloc) | exact HK.out)))); have n6_ := Aside0.mk (IsS75.below (by repeat (first | (with_reducible first | exact HI0.out | apply IsS75.alloc | apply IsS75.drewN | apply IsS75.drew | apply IsS75.set_1) | exact HI0.out)) hb); have n7_ := Aside0.mk (KeepBut.trans (by repeat (first | (with_reducible first | exact HK.out | apply KeepBut.set_ | apply keep_drewN | apply keep_drew | apply keep_alloc) | exact HK.out)) (KeepBut.of_below hb g none) (.inl rfl)); have n8_ := Aside0.mk (below_step (by repeat (first | (with_reducible first | exact HB.out | apply below_alloc | apply pw_below_drewN | apply below_drew1 | refine below_set ?_ (IsS75.ge HI0.out)) | exact HB.out)) hb); clear HO179; clear HO184; clear HO189; clear HO195; clear HO201; clear HI0; clear HK; clear HB; have HO179 := n0_; have HO184 := n1_; have HO189 := n2_; have HO195 := n3_; have HO201 := n4_; have HO204 := n5_; have HI0 := n6_; have HK := n7_; have HB := n8_; clear n0_ n1_ n2_ n3_ n4_ n5_ n6_ n7_ n8_; clear hb ho26; obtain ⟨Ao27, co27, eo27⟩ := Kd.R_slice HO204.out; subst eo27) | ((with_reducible refine gate_callee (f := 54) rfl ?_); refine goesL_ (some 33) rfl rfl Try.func54 (by kernel_rfl) rfl #[.pointer (some ⟨g, 0, none⟩), .slice Ao27 y202.length co27] rfl (by (try simp only [List.map_toArray, List.map_cons, List.map_nil]); first | done | rfl | (simp only [List.length_drop, List.length_take]; rfl)) ?_; (with_reducible refine (spec_reader_one.calls k g s0_0 t191 _ _ y202 t205 t206 w0 _ ?side1 ?side2 ?side3 ?side4 ?side5 A7.out).mono ?_); (case side1 => repeat (first | (with_reducible first | exact HI0.out | apply IsS75.alloc | apply IsS75.drewN | apply IsS75.drew | apply IsS75.set_1) | exact HI0.out)); (case side2 => repeat (first | (with_reducible first | exact HB.out | apply below_alloc | apply pw_below_drewN | apply below_drew1 | refine below_set ?_ (IsS75.ge HI0.out)) | exact HB.out)); (case side3 => repeat (first | exact (Kd.R_reads' HO204.out).2.2 | (with_reducible refine Kd.C_alloc ?_ _) | (with_reducible refine Kd.C_drewN ?_ _) | (with_reducible refine Kd.C_drew ?_))); (case side4 => exact (Kd.R_reads' HO204.out).2.1); (case side5 => exact far_slice (IsS75.own_ne HI0.out HO204.out (by decide))); rintro e w28 ⟨rfl, hi, hb, hk⟩; refine ⟨_, rfl, ?_⟩; have n0_ := Aside0.mk (Kd.R_mono (Kd.R_keep (IsS75.apart (show IsS75 w0 _ g s0_0 t191 from by repeat (first | (with_reducible first | exact HI0.out | apply IsS75.alloc | apply IsS75.drewN | apply IsS75.drew | apply IsS75.set_1) | exact HI0.out)) (by (with_reducible repeat (first | apply Kd.R_alloc | apply Kd.R_drewN | apply Kd.R_drew)); exact HO179.out) (by decide)) hk (fun _ h => h.2)) (fun _ h => h.1)); have n1_ := Aside0.mk (Kd.R_mono (Kd.R_keep (IsS75.apart (show IsS75 w0 _ g s0_0 t191 from by repeat (first | (with_reducible first | exact HI0.out | apply IsS75.alloc | apply IsS75.drewN | apply IsS75.drew | apply IsS75.set_1) | exact HI0.out)) (by (with_reducible repeat (first | apply Kd.R_alloc | apply Kd.R_drewN | apply Kd.R_drew)); exact HO184.out) (by decide)) hk (fun _ h => h.2)) (fun _ h => h.1)); have n2_ := Aside0.mk (Kd.R_mono (Kd.R_keep (IsS75.apart (show IsS75 w0 _ g s0_0 t191 from by repeat (first | (with_reducible first | exact HI0.out | apply IsS75.alloc | apply IsS75.drewN | apply IsS75.drew | apply IsS75.set_1) | exact HI0.out)) (by (with_reducible repeat (first | apply Kd.R_alloc | apply Kd.R_drewN | apply Kd.R_drew)); exact HO189.out) (by decide)) hk (fun _ h => h.2)) (fun _ h => h.1)); have n3_ := Aside0.mk (Kd.R_mono (Kd.R_keep (IsS75.apart (show IsS75 w0 _ g s0_0 t191 from by repeat (first | (with_reducible first | exact HI0.out | apply IsS75.alloc | apply IsS75.drewN | apply IsS75.drew | apply IsS75.set_1) | exact HI0.out)) (by (with_reducible repeat (first | apply Kd.R_alloc | apply Kd.R_drewN | apply Kd.R_drew)); exact HO195.out) (by decide)) hk (fun _ h => h.2)) (fun _ h => h.1)); have n4_ := Aside0.mk (Kd.R_mono (Kd.R_keep (IsS75.apart (show IsS75 w0 _ g s0_0 t191 from by repeat (first | (with_reducible first | exact HI0.out | apply IsS75.alloc | apply IsS75.drewN | apply IsS75.drew | apply IsS75.set_1) | exact HI0.out)) (by (with_reducible repeat (first | apply Kd.R_alloc | apply Kd.R_drewN | apply Kd.R_drew)); exact HO201.out) (by decide)) hk (fun _ h => h.2)) (fun _ h => h.1)); have n5_ := Aside0.mk (Kd.R_mono (Kd.R_keep (IsS75.apart (show IsS75 w0 _ g s0_0 t191 from by repeat (first | (with_reducible first | exact HI0.out | apply IsS75.alloc | apply IsS75.drewN | apply IsS75.drew | apply IsS75.set_1) | exact HI0.out)) (by (with_reducible repeat (first | apply Kd.R_alloc | apply Kd.R_drewN | apply Kd.R_drew)); exact HO204.out) (by decide)) hk (fun _ h => h.2)) (fun _ h => h.1)); have n6_ := Aside0.mk (KeepBut.trans (by repeat (first | (with_reducible first | exact HK.out | apply KeepBut.set_ | apply keep_drewN | apply keep_drew | apply keep_alloc) | exact HK.out)) hk (.inl rfl)); have n7_ := Aside0.mk (hb); have n8_ := Aside0.mk (hi); clear HO179; clear HO184; clear HO189; clear HO195; clear HO201; clear HO204; clear HK; clear HB; clear HI0; have HO179 := n0_; have HO184 := n1_; have HO189 := n2_; have HO195 := n3_; have HO201 := n4_; have HO204 := n5_; have HK := n6_; have HB := n7_; have HI0 := n8_; clear n0_ n1_ n2_ n3_ n4_ n5_ n6_ n7_ n8_; (try clear hb); (try clear hb2); (try clear hk); (try clear hi)))
    go_loopg [8] k (fun kq v8 w' => ∃ (x7_1 : List (S47)) (x8_1 : Int) (x1001_1 : Int), v8 = .int .i64 x8_1 ∧ Aside0 (spec_somePieces.l0 kq x7_1 x8_1 s0_0 x1001_1 = some (r1, r2)) ∧ Aside0 (kq ≤ k) ∧ Aside0 (Kd.R k47 47 w' w.heap.size (fun _ => True) v200 x7_1) ∧ Aside0 (IsS75 w0 w' g s0_0 x1001_1) ∧ Aside0 (KeepBut w w' g none) ∧ Aside0 (Below w0.heap.size w0 w'))
    case atStart => exact ⟨(y199), (t205), (t206), (by first | rfl | (simp; done) | (simp [*]; done)), H', ⟨Nat.le_refl _⟩, ⟨by (with_reducible repeat (first | apply Kd.R_alloc | apply Kd.R_drewN | apply Kd.R_drew)); exact Kd.R_mono HO201.out (fun _ hk => trivial)⟩, ⟨by repeat (first | (with_reducible first | exact HI0.out | apply IsS75.alloc | apply IsS75.drewN | apply IsS75.drew | apply IsS75.set_1) | exact HI0.out)⟩, ⟨by repeat (first | (with_reducible first | exact HK.out | apply KeepBut.set_ | apply keep_drewN | apply keep_drew | apply keep_alloc) | exact HK.out)⟩, ⟨by repeat (first | (with_reducible first | exact HB.out | apply below_alloc | apply pw_below_drewN | apply below_drew1 | refine below_set ?_ (IsS75.ge HI0.out)) | exact HB.out)⟩⟩
    case round =>
      clear H'
      try clear c2
      try clear p2
      try clear c5
      try clear c6
      try clear c25
      obtain ⟨x7_1, x8_1, x1001_1, rfl, HA, HK1, HO_7, HI0, HK, HB⟩ := hrel
      cases gk with
      | zero => exact absurd HA.out (by simp [spec_somePieces.l0])
      | succ k1 =>
        have H := HA.out
        clear HA
        simp only [spec_somePieces.l0] at H
        have HC29 := Aside0.mk H
        clear H
        go_upto_region 6 with (fail)
        go_cut [40] (fun v40 wc => ∃ (kq : Nat) (x40_28 : Bool), v40 = .bool x40_28 ∧ Aside0 (spec_somePieces.j1 kq x7_1 x8_1 x40_28 s0_0 x1001_1 = some (r1, r2)) ∧ Aside0 (kq ≤ k1) ∧ Aside0 (Kd.R k47 47 wc w.heap.size (fun _ => True) v200 x7_1) ∧ Aside0 (IsS75 w0 wc g s0_0 x1001_1) ∧ Aside0 (KeepBut w wc g none) ∧ Aside0 (Below w0.heap.size w0 wc))
        case first =>
          have H := HC29.out
          clear HC29
          by_cases c30 : x8_1 > 0
          · rw [if_pos c30] at H
            have c30b0 : decide (0 < x8_1) = true := decide_eq_true c30
            clear c30
            (first | rw [c30b0] | (simp only [i64_w, i32_w]; rw [c30b0]) | skip)
            have H' := Aside0.mk H
            clear H
            obtain ⟨Ao31, co31, eo31⟩ := Kd.R_slice HO_7.out
            subst eo31
            go_wp2
            go_meet
            case rel => exact ⟨_, (decide ((x7_1.length : Int) > 1)), (by first | rfl | (simp; done) | (simp [*]; done)), H', ⟨by have := HK1.out; first | omega | exact Nat.le_refl _⟩, ⟨by (with_reducible repeat (first | apply Kd.R_alloc | apply Kd.R_drewN | apply Kd.R_drew)); exact HO_7.out⟩, ⟨by repeat (first | (with_reducible first | exact HI0.out | apply IsS75.alloc | apply IsS75.drewN | apply IsS75.drew | apply IsS75.set_1) | exact HI0.out)⟩, ⟨by repeat (first | (with_reducible first | exact HK.out | apply KeepBut.set_ | apply keep_drewN | apply keep_drew | apply keep_alloc) | exact HK.out)⟩, ⟨by repeat (first | (with_reducible first | exact HB.out | apply below_alloc | apply pw_below_drewN | apply below_drew1 | refine below_set ?_ (IsS75.ge HI0.out)) | exact HB.out)⟩⟩
          · rw [if_neg c30] at H
            have c30b0 : decide (0 < x8_1) = false := decide_eq_false c30
            clear c30
            (first | rw [c30b0] | (simp only [i64_w, i32_w]; rw [c30b0]) | skip)
            have H' := Aside0.mk H
            clear H
            go_wp2
            go_meet
            case rel => exact ⟨_, (false), (by first | rfl | (simp; done) | (simp [*]; done)), H', ⟨by have := HK1.out; first | omega | exact Nat.le_refl _⟩, ⟨by (with_reducible repeat (first | apply Kd.R_alloc | apply Kd.R_drewN | apply Kd.R_drew)); exact HO_7.out⟩, ⟨by repeat (first | (with_reducible first | exact HI0.out | apply IsS75.alloc | apply IsS75.drewN | apply IsS75.drew | apply IsS75.set_1) | exact HI0.out)⟩, ⟨by repeat (first | (with_reducible first | exact HK.out | apply KeepBut.set_ | apply keep_drewN | apply keep_drew | apply keep_alloc) | exact HK.out)⟩, ⟨by repeat (first | (with_reducible first | exact HB.out | apply below_alloc | apply pw_below_drewN | apply below_drew1 | refine below_set ?_ (IsS75.ge HI0.out)) | exact HB.out)⟩⟩
        case rest =>
          clear HC29
          try clear c2
          try clear p2
          try clear c3
          try clear c5
          try clear c6
          try clear c25
          try clear c30
          try clear c30b0
          try clear p2
          obtain ⟨kq, x40_28, rfl, HA, HJ28, HO_7, HI0, HK, HB⟩ := hcut
          cases kq with
          | zero => exact absurd HA.out (by simp [spec_somePieces.j1])
          | succ kj28 =>
            have H := HA.out
            clear HA
            simp only [spec_somePieces.j1] at H
            by_cases c32 : x40_28 = true
            · subst c32
              have H1 : ((spec_reader_pick.f kj28 s0_0 x1001_1 (x7_1.length : Int)).bind fun bt207 => ((spec_reader_pick.f kj28 s0_0 bt207.2 (x7_1.length : Int)).bind fun bt209 => (if 0 ≤ bt207.1 then (if bt207.1 < (x7_1.length : Int) then (if 0 ≤ bt209.1 then (if bt209.1 < (x7_1.length : Int) then (spec_somePieces.l0 kj28 ((x7_1.set (bt207.1 : Int).toNat (⟨(rd_T47 x7_1 bt209.1).f0, (rd_T47 x7_1 bt209.1).f1, (rd_T47 x7_1 bt209.1).f2⟩ : S47)).set (bt209.1 : Int).toNat (⟨(rd_T47 x7_1 bt207.1).f0, (rd_T47 x7_1 bt207.1).f1, (rd_T47 x7_1 bt207.1).f2⟩ : S47)) (wrap64 (x8_1 - 1)) s0_0 bt209.2) else (none)) else (none)) else (none)) else (none)))) = some (r1, r2) := by rw [if_pos rfl] at H; exact H
              clear H
              have H := H1
              clear H1
              replace H := Option.bind_eq_some_iff.mp H
              obtain ⟨⟨t207, t208⟩, A330, H⟩ := H
              replace H : ((spec_reader_pick.f kj28 s0_0 t208 (x7_1.length : Int)).bind fun bt209 => (if 0 ≤ t207 then (if t207 < (x7_1.length : Int) then (if 0 ≤ bt209.1 then (if bt209.1 < (x7_1.length : Int) then (spec_somePieces.l0 kj28 ((x7_1.set (t207 : Int).toNat (⟨(rd_T47 x7_1 bt209.1).f0, (rd_T47 x7_1 bt209.1).f1, (rd_T47 x7_1 bt209.1).f2⟩ : S47)).set (bt209.1 : Int).toNat (⟨(rd_T47 x7_1 t207).f0, (rd_T47 x7_1 t207).f1, (rd_T47 x7_1 t207).f2⟩ : S47)) (wrap64 (x8_1 - 1)) s0_0 bt209.2) else (none)) else (none)) else (none)) else (none))) = some (r1, r2) := H
              have A33 := Aside0.mk A330
              clear A330
              replace H := Option.bind_eq_some_iff.mp H
              obtain ⟨⟨t209, t210⟩, A340, H⟩ := H
              replace H : (if 0 ≤ t207 then (if t207 < (x7_1.length : Int) then (if 0 ≤ t209 then (if t209 < (x7_1.length : Int) then (spec_somePieces.l0 kj28 ((x7_1.set (t207 : Int).toNat (⟨(rd_T47 x7_1 t209).f0, (rd_T47 x7_1 t209).f1, (rd_T47 x7_1 t209).f2⟩ : S47)).set (t209 : Int).toNat (⟨(rd_T47 x7_1 t207).f0, (rd_T47 x7_1 t207).f1, (rd_T47 x7_1 t207).f2⟩ : S47)) (wrap64 (x8_1 - 1)) s0_0 t210) else (none)) else (none)) else (none)) else (none)) = some (r1, r2) := H
              have A34 := Aside0.mk A340
              clear A340
              by_cases c35 : 0 ≤ t207
              · rw [if_pos c35] at H
                have c35b0 : decide (0 ≤ t207) = true := decide_eq_true c35
                clear c35
                by_cases c36 : t207 < (x7_1.length : Int)
                · rw [if_pos c36] at H
                  have c36b0 : decide (t207 < (x7_1.length : Int)) = true := decide_eq_true c36
                  clear c36
                  by_cases c37 : 0 ≤ t209
                  · rw [if_pos c37] at H
                    have c37b0 : decide (0 ≤ t209) = true := decide_eq_true c37
                    clear c37
                    by_cases c38 : t209 < (x7_1.length : Int)
                    · rw [if_pos c38] at H
                      have c38b0 : decide (t209 < (x7_1.length : Int)) = true := decide_eq_true c38
                      clear c38
                      obtain ⟨y214, hy214⟩ : ∃ y_ : List (S47), y_ = (x7_1.set (t207 : Int).toNat (⟨(rd_T47 x7_1 t209).f0, (rd_T47 x7_1 t209).f1, (rd_T47 x7_1 t209).f2⟩ : S47)) := ⟨_, rfl⟩
                      replace H : (spec_somePieces.l0 kj28 (y214.set (t209 : Int).toNat (⟨(rd_T47 x7_1 t207).f0, (rd_T47 x7_1 t207).f1, (rd_T47 x7_1 t207).f2⟩ : S47)) (wrap64 (x8_1 - 1)) s0_0 t210) = some (r1, r2) := by first | (rw [hy214]; with_reducible exact H) | (have H2_ := (Option.bind_some _ _).symm.trans H; rw [hy214]; with_reducible exact H2_) | (have H2_ := (Option.bind_some _ _).symm.trans H; with_reducible exact H2_) | with_reducible exact H | (rw [hy214]; exact H) | exact H
                      have Ny214 := Aside0.mk hy214
                      clear hy214
                      obtain ⟨y215, hy215⟩ : ∃ y_ : List (S47), y_ = (y214.set (t209 : Int).toNat (⟨(rd_T47 x7_1 t207).f0, (rd_T47 x7_1 t207).f1, (rd_T47 x7_1 t207).f2⟩ : S47)) := ⟨_, rfl⟩
                      replace H : (spec_somePieces.l0 kj28 y215 (wrap64 (x8_1 - 1)) s0_0 t210) = some (r1, r2) := by first | (rw [hy215]; with_reducible exact H) | (have H2_ := (Option.bind_some _ _).symm.trans H; rw [hy215]; with_reducible exact H2_) | (have H2_ := (Option.bind_some _ _).symm.trans H; with_reducible exact H2_) | with_reducible exact H | (rw [hy215]; exact H) | exact H
                      have Ny215 := Aside0.mk hy215
                      clear hy215
                      have H' := Aside0.mk H
                      clear H
                      obtain ⟨Ao41, co41, eo41⟩ := Kd.R_slice HO_7.out
                      subst eo41
                      go_wp2_with (first | ((with_reducible refine gate_callee (f := 55) rfl ?_); refine goesL_ (some 46) rfl rfl Try.func55 (by kernel_rfl) rfl #[.pointer (some ⟨g, 0, none⟩), .int .i64 (x7_1.length : Int)] rfl (by (try simp only [List.map_toArray, List.map_cons, List.map_nil]); first | done | rfl | (simp only [List.length_drop, List.length_take]; rfl)) ?_; (with_reducible refine (spec_reader_pick.calls kj28 g s0_0 x1001_1 (x7_1.length : Int) t207 t208 w0 _ ?side1 ?side2 A33.out).mono ?_); (case side1 => repeat (first | (with_reducible first | exact HI0.out | apply IsS75.alloc | apply IsS75.drewN | apply IsS75.drew | apply IsS75.set_1) | exact HI0.out)); (case side2 => repeat (first | (with_reducible first | exact HB.out | apply below_alloc | apply pw_below_drewN | apply below_drew1 | refine below_set ?_ (IsS75.ge HI0.out)) | exact HB.out)); rintro e w42 ⟨rfl, hi, hb, hk⟩; refine ⟨_, rfl, ?_⟩; have n0_ := Aside0.mk (Kd.R_mono (Kd.R_keep (IsS75.apart (show IsS75 w0 _ g s0_0 x1001_1 from by repeat (first | (with_reducible first | exact HI0.out | apply IsS75.alloc | apply IsS75.drewN | apply IsS75.drew | apply IsS75.set_1) | exact HI0.out)) (by (with_reducible repeat (first | apply Kd.R_alloc | apply Kd.R_drewN | apply Kd.R_drew)); exact HO_7.out) (by decide)) hk (fun _ h => h.2)) (fun _ h => h.1)); have n1_ := Aside0.mk (KeepBut.trans (by repeat (first | (with_reducible first | exact HK.out | apply KeepBut.set_ | apply keep_drewN | apply keep_drew | apply keep_alloc) | exact HK.out)) hk (.inl rfl)); have n2_ := Aside0.mk (hb); have n3_ := Aside0.mk (hi); clear HO_7; clear HK; clear HB; clear HI0; have HO_7 := n0_; have HK := n1_; have HB := n2_; have HI0 := n3_; clear n0_ n1_ n2_ n3_; (try clear hb); (try clear hb2); (try clear hk); (try clear hi)) | ((with_reducible refine gate_callee (f := 55) rfl ?_); refine goesL_ (some 50) rfl rfl Try.func55 (by kernel_rfl) rfl #[.pointer (some ⟨g, 0, none⟩), .int .i64 (x7_1.length : Int)] rfl (by (try simp only [List.map_toArray, List.map_cons, List.map_nil]); first | done | rfl | (simp only [List.length_drop, List.length_take]; rfl)) ?_; (with_reducible refine (spec_reader_pick.calls kj28 g s0_0 t208 (x7_1.length : Int) t209 t210 w0 _ ?side1 ?side2 A34.out).mono ?_); (case side1 => repeat (first | (with_reducible first | exact HI0.out | apply IsS75.alloc | apply IsS75.drewN | apply IsS75.drew | apply IsS75.set_1) | exact HI0.out)); (case side2 => repeat (first | (with_reducible first | exact HB.out | apply below_alloc | apply pw_below_drewN | apply below_drew1 | refine below_set ?_ (IsS75.ge HI0.out)) | exact HB.out)); rintro e w43 ⟨rfl, hi, hb, hk⟩; refine ⟨_, rfl, ?_⟩; have n0_ := Aside0.mk (Kd.R_mono (Kd.R_keep (IsS75.apart (show IsS75 w0 _ g s0_0 t208 from by repeat (first | (with_reducible first | exact HI0.out | apply IsS75.alloc | apply IsS75.drewN | apply IsS75.drew | apply IsS75.set_1) | exact HI0.out)) (by (with_reducible repeat (first | apply Kd.R_alloc | apply Kd.R_drewN | apply Kd.R_drew)); exact HO_7.out) (by decide)) hk (fun _ h => h.2)) (fun _ h => h.1)); have n1_ := Aside0.mk (KeepBut.trans (by repeat (first | (with_reducible first | exact HK.out | apply KeepBut.set_ | apply keep_drewN | apply keep_drew | apply keep_alloc) | exact HK.out)) hk (.inl rfl)); have n2_ := Aside0.mk (hb); have n3_ := Aside0.mk (hi); clear HO_7; clear HK; clear HB; clear HI0; have HO_7 := n0_; have HK := n1_; have HB := n2_; have HI0 := n3_; clear n0_ n1_ n2_ n3_; (try clear hb); (try clear hb2); (try clear hk); (try clear hi); have p211 : 0 ≤ (t207 : Int) := of_decide_eq_true (by first | (with_reducible assumption) | assumption); have q211 : t207 < (x7_1.length : Int) := of_decide_eq_true (by first | (with_reducible assumption) | assumption); obtain ⟨ad211, e211, hx211_0, hx211_1, hx211_2⟩ := at_T47 (Kd.R_reads' HO_7.out).2.2 t207 p211 q211; cases e211; replace p211 := eq_true p211; replace q211 := eq_true q211) | ((with_reducible refine gate_dst (N := 11) rfl ?_); (try (refine gate_guard (by rfl) ?_; dsimp only)); refine box_event ?hg (N := 11) ?hd (cs := #[.int .i64 0, .int .i64 0, .bool false]) (t := 47) ?hr ?_; (case hd => rfl); (case hg => rfl); (case hr => first | (go_simp; done) | (go_simp; rfl)); intro gb212 hg w44 hbox hb; have n0_ := Aside0.mk (Kd.R_below (Kd.R_elderB (by (with_reducible repeat (first | apply Kd.R_alloc | apply Kd.R_drewN | apply Kd.R_drew)); exact HO_7.out) gb212 (Nat.le_of_eq hg.symm)) hb); have n1_ := Aside0.mk (IsS75.below (by repeat (first | (with_reducible first | exact HI0.out | apply IsS75.alloc | apply IsS75.drewN | apply IsS75.drew | apply IsS75.set_1) | exact HI0.out)) hb); have n2_ := Aside0.mk (KeepBut.trans (by repeat (first | (with_reducible first | exact HK.out | apply KeepBut.set_ | apply keep_drewN | apply keep_drew | apply keep_alloc) | exact HK.out)) (KeepBut.of_below hb g none) (.inl rfl)); have n3_ := Aside0.mk (below_step (by repeat (first | (with_reducible first | exact HB.out | apply below_alloc | apply pw_below_drewN | apply below_drew1 | refine below_set ?_ (IsS75.ge HI0.out)) | exact HB.out)) hb); have n4_ := Aside0.mk (hbox); have n5_ := Aside0.mk ((by rw [hg]; exact (keep_size (w := w) (g := g) (row := none) (by repeat (first | (with_reducible first | exact HK.out | apply KeepBut.set_ | apply keep_drewN | apply keep_drew | apply keep_alloc) | exact HK.out))) : w.heap.size ≤ gb212)); have n6_ := Aside0.mk ((Nat.le_trans HW0.out (by rw [hg]; exact (keep_size (w := w) (g := g) (row := none) (by repeat (first | (with_reducible first | exact HK.out | apply KeepBut.set_ | apply keep_drewN | apply keep_drew | apply keep_alloc) | exact HK.out))) : w.heap.size ≤ gb212) : w0.heap.size ≤ gb212)); have n7_ := Aside0.mk ((by rw [hg]; exact Nat.ne_of_lt (IsS75.lt (show IsS75 w0 _ g s0_0 t210 from by repeat (first | (with_reducible first | exact HI0.out | apply IsS75.alloc | apply IsS75.drewN | apply IsS75.drew | apply IsS75.set_1) | exact HI0.out))) : g ≠ gb212)); have n8_ := Aside0.mk ((by rw [hg]; exact Nat.ne_of_gt (IsS75.lt (show IsS75 w0 _ g s0_0 t210 from by repeat (first | (with_reducible first | exact HI0.out | apply IsS75.alloc | apply IsS75.drewN | apply IsS75.drew | apply IsS75.set_1) | exact HI0.out))) : gb212 ≠ g)); clear HO_7; clear HI0; clear HK; clear HB; have HO_7 := n0_; have HI0 := n1_; have HK := n2_; have HB := n3_; have BK212 := n4_; have GW212 := n5_; have GE212 := n6_; have NB0_212 := n7_; have NB212_0 := n8_; clear n0_ n1_ n2_ n3_ n4_ n5_ n6_ n7_ n8_; clear hb hbox hg; have hnb45 := NB212_0.out; have hnc45 := NB0_212.out; have hcz46_0 : w44.cell? ⟨gb212, 0, none⟩ = some (.int .i64 0) := (blk_cell BK212.out 0).trans rfl; have hcz46_1 : w44.cell? ⟨gb212, 1, none⟩ = some (.int .i64 0) := (blk_cell BK212.out 1).trans rfl; have hcz46_2 : w44.cell? ⟨gb212, 2, none⟩ = some (.bool false) := (blk_cell BK212.out 2).trans rfl; have hfz46_0 := blk_frozen BK212.out 0; have hfz46_1 := blk_frozen BK212.out 1; have hfz46_2 := blk_frozen BK212.out 2) | ((with_reducible refine gate_store (t := 47) (p := 11) rfl ?_); refine store_event (t := 47) (p := 11) (v := ?vo_w47) (w1 := (((w44.setCell ⟨gb212, 0, none⟩ (.int .i64 ((rd_T47 x7_1 t207).f0))).setCell ⟨gb212, 1, none⟩ (.int .i64 ((rd_T47 x7_1 t207).f1))).setCell ⟨gb212, 2, none⟩ (.bool ((rd_T47 x7_1 t207).f2)))) ?hg ?ho ?hn ?hr ?_; (case ho => rfl); (case hg => rfl); (case hn => rfl); (case hr => first | (go_simp; done) | (go_simp; rfl)); intro w47 hw; have n0_ : Aside0 (Kd.R k47 47 w47 w.heap.size (fun k_ => k_ ≠ gb212) (.slice (some ad211) x7_1.length co41) x7_1) := ⟨(by rw [hw]; exact (by (with_reducible repeat (first | apply Kd.R_alloc | apply Kd.R_drewN | apply Kd.R_drew)); exact Kd.R_mono (Kd.R_far (p := ⟨gb212, 2, none⟩) (Kd.R_far (p := ⟨gb212, 1, none⟩) (Kd.R_far (p := ⟨gb212, 0, none⟩) (Kd.R_mono HO_7.out (fun k_ hk => (⟨hk, hk.2⟩ : _ ∧ k_ ≠ gb212))) (fun _ hk => hk.2) (.int .i64 ((rd_T47 x7_1 t207).f0))) (fun _ hk => hk.2) (.int .i64 ((rd_T47 x7_1 t207).f1))) (fun _ hk => hk.2) (.bool ((rd_T47 x7_1 t207).f2))) (fun _ hk => hk.1.2)))⟩; have n1_ : Aside0 (w47.heap[gb212]? = some (.cells #[.int .i64 ((rd_T47 x7_1 t207).f0), .int .i64 ((rd_T47 x7_1 t207).f1), .bool ((rd_T47 x7_1 t207).f2)] 47 (0, 0))) := ⟨(by rw [hw]; exact (by (with_reducible repeat (first | refine blk_drewN ?_ _ | refine blk_drew ?_ | refine blk_alloc ?_ _)); refine blk_put (cs := #[.int .i64 ((rd_T47 x7_1 t207).f0), .int .i64 ((rd_T47 x7_1 t207).f1), .bool false]) ?_ 2 _ rfl; (with_reducible repeat (first | refine blk_drewN ?_ _ | refine blk_drew ?_ | refine blk_alloc ?_ _)); refine blk_put (cs := #[.int .i64 ((rd_T47 x7_1 t207).f0), .int .i64 0, .bool false]) ?_ 1 _ rfl; (with_reducible repeat (first | refine blk_drewN ?_ _ | refine blk_drew ?_ | refine blk_alloc ?_ _)); refine blk_put (cs := #[.int .i64 0, .int .i64 0, .bool false]) ?_ 0 _ rfl; (with_reducible repeat (first | refine blk_drewN ?_ _ | refine blk_drew ?_ | refine blk_alloc ?_ _)); exact BK212.out))⟩; have n2_ : Aside0 (IsS75 w0 w47 g s0_0 t210) := ⟨(by rw [hw]; exact (by repeat (first | (with_reducible first | exact HI0.out | apply IsS75.alloc | apply IsS75.drewN | apply IsS75.drew | apply IsS75.set_1 | refine IsS75.far ?_ NB0_212.out _) | exact HI0.out)))⟩; have n3_ : Aside0 (KeepBut w w47 g none) := ⟨(by rw [hw]; exact (by repeat (first | (with_reducible first | exact HK.out | apply KeepBut.set_ | apply keep_drewN | apply keep_drew | apply keep_alloc | refine keep_far ?_ GW212.out _) | exact HK.out)))⟩; have n4_ : Aside0 (Below w0.heap.size w0 w47) := ⟨(by rw [hw]; exact (by repeat (first | (with_reducible first | exact HB.out | apply below_alloc | apply pw_below_drewN | apply below_drew1 | refine below_set ?_ (IsS75.ge HI0.out) | refine below_set ?_ GE212.out) | exact HB.out)))⟩; clear hw; clear HO_7; clear BK212; clear HI0; clear HK; clear HB; have HO_7 := n0_; have BK212 := n1_; have HI0 := n2_; have HK := n3_; have HB := n4_; clear n0_ n1_ n2_ n3_ n4_; have p213 : 0 ≤ (t209 : Int) := of_decide_eq_true (by first | (with_reducible assumption) | assumption); have q213 : t209 < (x7_1.length : Int) := of_decide_eq_true (by first | (with_reducible assumption) | assumption); obtain ⟨ad213, e213, hx213_0, hx213_1, hx213_2⟩ := at_T47 (Kd.R_reads' HO_7.out).2.2 t209 p213 q213; obtain rfl : ad211 = ad213 := (by injection e213); replace p213 := eq_true p213; replace q213 := eq_true q213; have p39 : 0 ≤ (t207 : Int) := of_decide_eq_true (by first | (with_reducible assumption) | assumption); have q39 : (t207 : Int) < ((x7_1.length : Int) : Int) := of_decide_eq_true (by first | (with_reducible assumption) | assumption); obtain ⟨go39, co39, eo39, gb39, gl39, cl39, HG39⟩ := Kd.R_form HO_7.out (by omega); (first | cases eo39 | (injection eo39 with ea_ en_ ec_; (first | subst ea_ | (injection ea_ with ea_; subst ea_)); subst ec_; clear en_)); have GB39 := Aside0.mk gb39; have GG39 := Aside0.mk HG39; clear gb39 gl39 HG39; (first | simp only [add_plain] at hx211_0 | skip); (first | simp only [add_plain] at hx211_1 | skip); (first | simp only [add_plain] at hx211_2 | skip); (first | simp only [add_plain] at hx213_0 | skip); (first | simp only [add_plain] at hx213_1 | skip); (first | simp only [add_plain] at hx213_2 | skip); obtain ⟨ce39, hcl39, hM39, hcc39, hfr39⟩ := Kd.R_elem HO_7.out z47 (t207 : Int) p39 q39; obtain rfl := k47_openM hM39; have hx39_0 : w47.cell? ⟨go39, (t207 : Int).toNat * 3, none⟩ = some (.int .i64 ((rd_T47 x7_1 t207).f0)) := hcc39 0 _ rfl; have hx39_1 : w47.cell? ⟨go39, (t207 : Int).toNat * 3 + 1, none⟩ = some (.int .i64 ((rd_T47 x7_1 t207).f1)) := hcc39 1 _ rfl; have hx39_2 : w47.cell? ⟨go39, (t207 : Int).toNat * 3 + 2, none⟩ = some (.bool ((rd_T47 x7_1 t207).f2)) := hcc39 2 _ rfl; have hf39_0 : w47.frozen? ⟨go39, (t207 : Int).toNat * 3, none⟩ = false := hfr39 0; have hf39_1 : w47.frozen? ⟨go39, (t207 : Int).toNat * 3 + 1, none⟩ = false := hfr39 1; have hf39_2 : w47.frozen? ⟨go39, (t207 : Int).toNat * 3 + 2, none⟩ = false := hfr39 2; clear hcl39 hcc39 hfr39 hM39; replace p39 := eq_true p39; replace q39 := eq_true q39; have HX48 := Aside0.mk (show Kd.R k47 47 w47 w.heap.size (fun k_ => k_ ≠ gb212) (.slice (some ⟨go39, 0, none⟩) x7_1.length co41) x7_1 from (by (with_reducible repeat (first | apply Kd.R_alloc | apply Kd.R_drewN | apply Kd.R_drew)); exact HO_7.out)); obtain ⟨ce48, hcl48, hM48, hcc48, hfr48⟩ := Kd.R_elem HX48.out z47 (t207 : Int) (of_decide_eq_true (by first | (with_reducible assumption) | assumption)) (by have h_ : (t207 : Int) < ((x7_1.length : Int) : Int) := of_decide_eq_true (by first | (with_reducible assumption) | assumption); first | exact h_ | (have e_ := (Kd.R_reads' HO_7.out).1; omega) | simpa using h_); obtain rfl := k47_openM hM48; have HP48 := Kd.R_seg HX48.out (t207 : Int) (of_decide_eq_true (by first | (with_reducible assumption) | assumption)) (by have h_ : (t207 : Int) < ((x7_1.length : Int) : Int) := of_decide_eq_true (by first | (with_reducible assumption) | assumption); first | exact h_ | (have e_ := (Kd.R_reads' HO_7.out).1; omega) | simpa using h_) (seg := [.int .i64 ((rd_T47 x7_1 t209).f0), .int .i64 ((rd_T47 x7_1 t209).f1), .bool ((rd_T47 x7_1 t209).f2)]) (j := 0) hcl48 hcc48 (show 3 ≤ 3 from by decide) (x' := (⟨(rd_T47 x7_1 t209).f0, (rd_T47 x7_1 t209).f1, (rd_T47 x7_1 t209).f2⟩ : S47)) (k47_mkM _ _ _ (⟨(rd_T47 x7_1 t209).f0, (rd_T47 x7_1 t209).f1, (rd_T47 x7_1 t209).f2⟩ : S47) ) (fun _ hk => hk); have hx48_0 := hcc48 0 _ rfl; (try simp only [show (k47).sz = 3 from rfl, Nat.mul_one, Nat.add_zero] at hx48_0); have hf48_0 := hfr48 0; (try simp only [show (k47).sz = 3 from rfl, Nat.mul_one, Nat.add_zero] at hf48_0); have hx48_1 := hcc48 1 _ rfl; (try simp only [show (k47).sz = 3 from rfl, Nat.mul_one, Nat.add_zero] at hx48_1); have hf48_1 := hfr48 1; (try simp only [show (k47).sz = 3 from rfl, Nat.mul_one, Nat.add_zero] at hf48_1); have hx48_2 := hcc48 2 _ rfl; (try simp only [show (k47).sz = 3 from rfl, Nat.mul_one, Nat.add_zero] at hx48_2); have hf48_2 := hfr48 2; (try simp only [show (k47).sz = 3 from rfl, Nat.mul_one, Nat.add_zero] at hf48_2); clear hcl48 hcc48 hfr48 hM48) | ((with_reducible refine gate_store (t := 47) (p := 61) rfl ?_); refine store_event (t := 47) (p := 61) (v := ?vo_w49) (w1 := (((w47.setCell ⟨go39, (t207 : Int).toNat * 3, none⟩ (.int .i64 ((rd_T47 x7_1 t209).f0))).setCell ⟨go39, (t207 : Int).toNat * 3 + 1, none⟩ (.int .i64 ((rd_T47 x7_1 t209).f1))).setCell ⟨go39, (t207 : Int).toNat * 3 + 2, none⟩ (.bool ((rd_T47 x7_1 t209).f2)))) ?hg ?ho ?hn ?hr ?_; (case ho => rfl); (case hg => rfl); (case hn => rfl); (case hr => first | (go_simp; done) | (go_simp; rfl)); intro w49 hw; have hg : w47.grownBy w49 (some go39) := (by rw [hw]; exact HP48.2); have hp_ : Kd.R k47 47 w49 w.heap.size (fun k_ => k_ ≠ gb212) (.slice (some ⟨go39, 0, none⟩) x7_1.length co41) y214 := (by rw [hw, Ny214.out]; exact HP48.1); clear HP48; have n0_ := Aside0.mk (hp_); have n1_ := Aside0.mk (IsS75.grown (by repeat (first | (with_reducible first | exact HI0.out | apply IsS75.alloc | apply IsS75.drewN | apply IsS75.drew | apply IsS75.set_1 | refine IsS75.far ?_ NB0_212.out _) | exact HI0.out)) hg (IsS75.own_ne HI0.out HO_7.out (by decide))); have n2_ := Aside0.mk (blk_grown (g := gb212) (o := .cells #[.int .i64 ((rd_T47 x7_1 t207).f0), .int .i64 ((rd_T47 x7_1 t207).f1), .bool ((rd_T47 x7_1 t207).f2)] 47 (0, 0)) (by (with_reducible repeat (first | refine blk_drewN ?_ _ | refine blk_drew ?_ | refine blk_alloc ?_ _)); exact BK212.out) hg (Kd.R_away HO_7.out (fun _ hk => hk))); have n3_ := Aside0.mk ((by rw [hw]; exact below_set (below_set (below_set (HB.out) (Nat.le_trans HL.out GB39.out)) (Nat.le_trans HL.out GB39.out)) (Nat.le_trans HL.out GB39.out) : Below w0.heap.size w0 w49)); have n4_ := Aside0.mk (KeepBut.trans (by repeat (first | (with_reducible first | exact HK.out | apply KeepBut.set_ | apply keep_drewN | apply keep_drew | apply keep_alloc | refine keep_far ?_ GW212.out _) | exact HK.out)) (KeepBut.of_grown hg g) (Kd.R_base2 HO_7.out)); clear HO_7; clear HI0; clear BK212; clear HB; clear HK; have HO_7 := n0_; have HI0 := n1_; have BK212 := n2_; have HB := n3_; have HK := n4_; clear n0_ n1_ n2_ n3_ n4_; clear hg hw hp_; have hcz50_0 : w49.cell? ⟨gb212, 0, none⟩ = some (.int .i64 ((rd_T47 x7_1 t207).f0)) := (blk_cell BK212.out 0).trans rfl; have hcz50_1 : w49.cell? ⟨gb212, 1, none⟩ = some (.int .i64 ((rd_T47 x7_1 t207).f1)) := (blk_cell BK212.out 1).trans rfl; have hcz50_2 : w49.cell? ⟨gb212, 2, none⟩ = some (.bool ((rd_T47 x7_1 t207).f2)) := (blk_cell BK212.out 2).trans rfl; have hfz50_0 := blk_frozen BK212.out 0; have hfz50_1 := blk_frozen BK212.out 1; have hfz50_2 := blk_frozen BK212.out 2; have p40 : 0 ≤ (t209 : Int) := of_decide_eq_true (by first | (with_reducible assumption) | assumption); have q40 : (t209 : Int) < ((x7_1.length : Int) : Int) := of_decide_eq_true (by first | (with_reducible assumption) | assumption); obtain ⟨ce40, hcl40, hM40, hcc40, hfr40⟩ := Kd.R_elem HO_7.out z47 (t209 : Int) p40 q40; obtain rfl := k47_openM hM40; have hx40_0 : w49.cell? ⟨go39, (t209 : Int).toNat * 3, none⟩ = some (.int .i64 ((rd_T47 y214 t209).f0)) := hcc40 0 _ rfl; have hx40_1 : w49.cell? ⟨go39, (t209 : Int).toNat * 3 + 1, none⟩ = some (.int .i64 ((rd_T47 y214 t209).f1)) := hcc40 1 _ rfl; have hx40_2 : w49.cell? ⟨go39, (t209 : Int).toNat * 3 + 2, none⟩ = some (.bool ((rd_T47 y214 t209).f2)) := hcc40 2 _ rfl; have hf40_0 : w49.frozen? ⟨go39, (t209 : Int).toNat * 3, none⟩ = false := hfr40 0; have hf40_1 : w49.frozen? ⟨go39, (t209 : Int).toNat * 3 + 1, none⟩ = false := hfr40 1; have hf40_2 : w49.frozen? ⟨go39, (t209 : Int).toNat * 3 + 2, none⟩ = false := hfr40 2; clear hcl40 hcc40 hfr40 hM40; replace p40 := eq_true p40; replace q40 := eq_true q40; have HX51 := Aside0.mk (show Kd.R k47 47 w49 w.heap.size (fun k_ => k_ ≠ gb212) (.slice (some ⟨go39, 0, none⟩) x7_1.length co41) y214 from (by (with_reducible repeat (first | apply Kd.R_alloc | apply Kd.R_drewN | apply Kd.R_drew)); exact HO_7.out)); obtain ⟨ce51, hcl51, hM51, hcc51, hfr51⟩ := Kd.R_elem HX51.out z47 (t209 : Int) (of_decide_eq_true (by first | (with_reducible assumption) | assumption)) (by have h_ : (t209 : Int) < ((x7_1.length : Int) : Int) := of_decide_eq_true (by first | (with_reducible assumption) | assumption); first | exact h_ | (have e_ := (Kd.R_reads' HO_7.out).1; omega) | simpa using h_); obtain rfl := k47_openM hM51; have HP51 := Kd.R_seg HX51.out (t209 : Int) (of_decide_eq_true (by first | (with_reducible assumption) | assumption)) (by have h_ : (t209 : Int) < ((x7_1.length : Int) : Int) := of_decide_eq_true (by first | (with_reducible assumption) | assumption); first | exact h_ | (have e_ := (Kd.R_reads' HO_7.out).1; omega) | simpa using h_) (seg := [.int .i64 ((rd_T47 x7_1 t207).f0), .int .i64 ((rd_T47 x7_1 t207).f1), .bool ((rd_T47 x7_1 t207).f2)]) (j := 0) hcl51 hcc51 (show 3 ≤ 3 from by decide) (x' := (⟨(rd_T47 x7_1 t207).f0, (rd_T47 x7_1 t207).f1, (rd_T47 x7_1 t207).f2⟩ : S47)) (k47_mkM _ _ _ (⟨(rd_T47 x7_1 t207).f0, (rd_T47 x7_1 t207).f1, (rd_T47 x7_1 t207).f2⟩ : S47) ) (fun _ hk => hk); have hx51_0 := hcc51 0 _ rfl; (try simp only [show (k47).sz = 3 from rfl, Nat.mul_one, Nat.add_zero] at hx51_0); have hf51_0 := hfr51 0; (try simp only [show (k47).sz = 3 from rfl, Nat.mul_one, Nat.add_zero] at hf51_0); have hx51_1 := hcc51 1 _ rfl; (try simp only [show (k47).sz = 3 from rfl, Nat.mul_one, Nat.add_zero] at hx51_1); have hf51_1 := hfr51 1; (try simp only [show (k47).sz = 3 from rfl, Nat.mul_one, Nat.add_zero] at hf51_1); have hx51_2 := hcc51 2 _ rfl; (try simp only [show (k47).sz = 3 from rfl, Nat.mul_one, Nat.add_zero] at hx51_2); have hf51_2 := hfr51 2; (try simp only [show (k47).sz = 3 from rfl, Nat.mul_one, Nat.add_zero] at hf51_2); clear hcl51 hcc51 hfr51 hM51) | ((with_reducible refine gate_store (t := 47) (p := 65) rfl ?_); refine store_event (t := 47) (p := 65) (v := ?vo_w52) (w1 := (((w49.setCell ⟨go39, (t209 : Int).toNat * 3, none⟩ (.int .i64 ((rd_T47 x7_1 t207).f0))).setCell ⟨go39, (t209 : Int).toNat * 3 + 1, none⟩ (.int .i64 ((rd_T47 x7_1 t207).f1))).setCell ⟨go39, (t209 : Int).toNat * 3 + 2, none⟩ (.bool ((rd_T47 x7_1 t207).f2)))) ?hg ?ho ?hn ?hr ?_; (case ho => rfl); (case hg => rfl); (case hn => rfl); (case hr => first | (go_simp; done) | (go_simp; rfl)); intro w52 hw; have hg : w49.grownBy w52 (some go39) := (by rw [hw]; exact HP51.2); have hp_ : Kd.R k47 47 w52 w.heap.size (fun k_ => k_ ≠ gb212) (.slice (some ⟨go39, 0, none⟩) x7_1.length co41) y215 := (by rw [hw, Ny215.out]; exact HP51.1); clear HP51; have n0_ := Aside0.mk (hp_); have n1_ := Aside0.mk (IsS75.grown (by repeat (first | (with_reducible first | exact HI0.out | apply IsS75.alloc | apply IsS75.drewN | apply IsS75.drew | apply IsS75.set_1 | refine IsS75.far ?_ NB0_212.out _) | exact HI0.out)) hg (IsS75.own_ne HI0.out HO_7.out (by decide))); have n2_ := Aside0.mk (blk_grown (g := gb212) (o := .cells #[.int .i64 ((rd_T47 x7_1 t207).f0), .int .i64 ((rd_T47 x7_1 t207).f1), .bool ((rd_T47 x7_1 t207).f2)] 47 (0, 0)) (by (with_reducible repeat (first | refine blk_drewN ?_ _ | refine blk_drew ?_ | refine blk_alloc ?_ _)); exact BK212.out) hg (Kd.R_away HO_7.out (fun _ hk => hk))); have n3_ := Aside0.mk ((by rw [hw]; exact below_set (below_set (below_set (HB.out) (Nat.le_trans HL.out GB39.out)) (Nat.le_trans HL.out GB39.out)) (Nat.le_trans HL.out GB39.out) : Below w0.heap.size w0 w52)); have n4_ := Aside0.mk (KeepBut.trans (by repeat (first | (with_reducible first | exact HK.out | apply KeepBut.set_ | apply keep_drewN | apply keep_drew | apply keep_alloc | refine keep_far ?_ GW212.out _) | exact HK.out)) (KeepBut.of_grown hg g) (Kd.R_base2 HO_7.out)); clear HO_7; clear HI0; clear BK212; clear HB; clear HK; have HO_7 := n0_; have HI0 := n1_; have BK212 := n2_; have HB := n3_; have HK := n4_; clear n0_ n1_ n2_ n3_ n4_; clear hg hw hp_))
                      go_roundg kj28
                      case measure => have := HK1.out; have := HJ28.out; omega
                      case rel => exact ⟨(y215), (wrap64 (x8_1 - 1)), (t210), (by first | rfl | (simp; done) | (simp [*]; done)), H', ⟨by have := HK1.out; have := HJ28.out; omega⟩, ⟨by (with_reducible repeat (first | apply Kd.R_alloc | apply Kd.R_drewN | apply Kd.R_drew)); exact Kd.R_mono HO_7.out (fun _ hk => trivial)⟩, ⟨by repeat (first | (with_reducible first | exact HI0.out | apply IsS75.alloc | apply IsS75.drewN | apply IsS75.drew | apply IsS75.set_1 | refine IsS75.far ?_ NB0_212.out _) | exact HI0.out)⟩, ⟨by repeat (first | (with_reducible first | exact HK.out | apply KeepBut.set_ | apply keep_drewN | apply keep_drew | apply keep_alloc | refine keep_far ?_ GW212.out _) | exact HK.out)⟩, ⟨by repeat (first | (with_reducible first | exact HB.out | apply below_alloc | apply pw_below_drewN | apply below_drew1 | refine below_set ?_ (IsS75.ge HI0.out) | refine below_set ?_ GE212.out) | exact HB.out)⟩⟩
                    · rw [if_neg c38] at H
                      exact absurd H (by simp)
                  · rw [if_neg c37] at H
                    exact absurd H (by simp)
                · rw [if_neg c36] at H
                  exact absurd H (by simp)
              · rw [if_neg c35] at H
                exact absurd H (by simp)
            · replace c32 := Bool.eq_false_iff.mpr c32
              subst c32
              have H1 : (if (x7_1.length : Int) > 1 then ((spec_reader_pick.f kj28 s0_0 x1001_1 3).bind fun bt216 => (spec_somePieces.j2 kj28 x7_1 (bt216.1 == 0) s0_0 bt216.2)) else (spec_somePieces.j2 kj28 x7_1 false s0_0 x1001_1)) = some (r1, r2) := by rw [if_neg (show ¬ (false = true) by decide)] at H; exact H
              clear H
              have H := H1
              clear H1
              have HC53 := Aside0.mk H
              clear H
              go_upto_region 13 with (fail)
              go_cut [73] (fun v73 wc => ∃ (kq : Nat) (x73_52 : Bool) (x1001_52 : Int), v73 = .bool x73_52 ∧ Aside0 (spec_somePieces.j2 kq x7_1 x73_52 s0_0 x1001_52 = some (r1, r2)) ∧ Aside0 (kq ≤ kj28) ∧ Aside0 (Kd.R k47 47 wc w.heap.size (fun _ => True) v200 x7_1) ∧ Aside0 (IsS75 w0 wc g s0_0 x1001_52) ∧ Aside0 (KeepBut w wc g none) ∧ Aside0 (Below w0.heap.size w0 wc))
              case first =>
                have H := HC53.out
                clear HC53
                by_cases c54 : (x7_1.length : Int) > 1
                · rw [if_pos c54] at H
                  have c54b0 : decide (1 < (x7_1.length : Int)) = true := decide_eq_true c54
                  have c54b1 : decide (1 < x7_1.length) = true := decide_eq_true (by omega)
                  clear c54
                  (first | rw [c54b0] | (simp only [i64_w, i32_w]; rw [c54b0]) | skip)
                  replace H := Option.bind_eq_some_iff.mp H
                  obtain ⟨⟨t216, t217⟩, A550, H⟩ := H
                  replace H : (spec_somePieces.j2 kj28 x7_1 (t216 == 0) s0_0 t217) = some (r1, r2) := H
                  have A55 := Aside0.mk A550
                  clear A550
                  have H' := Aside0.mk H
                  clear H
                  obtain ⟨Ao56, co56, eo56⟩ := Kd.R_slice HO_7.out
                  subst eo56
                  go_wp2_with (first | (go_at_call 55; (with_reducible refine (spec_reader_pick.calls kj28 g s0_0 x1001_1 3 t216 t217 w0 _ ?side1 ?side2 A55.out).mono ?_); (case side1 => repeat (first | (with_reducible first | exact HI0.out | apply IsS75.alloc | apply IsS75.drewN | apply IsS75.drew | apply IsS75.set_1) | exact HI0.out)); (case side2 => repeat (first | (with_reducible first | exact HB.out | apply below_alloc | apply pw_below_drewN | apply below_drew1 | refine below_set ?_ (IsS75.ge HI0.out)) | exact HB.out)); rintro e w57 ⟨rfl, hi, hb, hk⟩; have n0_ := Aside0.mk (Kd.R_mono (Kd.R_keep (IsS75.apart (show IsS75 w0 _ g s0_0 x1001_1 from by repeat (first | (with_reducible first | exact HI0.out | apply IsS75.alloc | apply IsS75.drewN | apply IsS75.drew | apply IsS75.set_1) | exact HI0.out)) (by (with_reducible repeat (first | apply Kd.R_alloc | apply Kd.R_drewN | apply Kd.R_drew)); exact HO_7.out) (by decide)) hk (fun _ h => h.2)) (fun _ h => h.1)); have n1_ := Aside0.mk (KeepBut.trans (by repeat (first | (with_reducible first | exact HK.out | apply KeepBut.set_ | apply keep_drewN | apply keep_drew | apply keep_alloc) | exact HK.out)) hk (.inl rfl)); have n2_ := Aside0.mk (hb); have n3_ := Aside0.mk (hi); clear HO_7; clear HK; clear HB; clear HI0; have HO_7 := n0_; have HK := n1_; have HB := n2_; have HI0 := n3_; clear n0_ n1_ n2_ n3_; (try clear hb); (try clear hb2); (try clear hk); (try clear hi)))
                  go_meet
                  case rel => exact ⟨_, ((t216 == 0)), (t217), (by first | rfl | (simp; done) | (simp [*]; done)), H', ⟨by have := HK1.out; have := HJ28.out; first | omega | exact Nat.le_refl _⟩, ⟨by (with_reducible repeat (first | apply Kd.R_alloc | apply Kd.R_drewN | apply Kd.R_drew)); exact HO_7.out⟩, ⟨by repeat (first | (with_reducible first | exact HI0.out | apply IsS75.alloc | apply IsS75.drewN | apply IsS75.drew | apply IsS75.set_1) | exact HI0.out)⟩, ⟨by repeat (first | (with_reducible first | exact HK.out | apply KeepBut.set_ | apply keep_drewN | apply keep_drew | apply keep_alloc) | exact HK.out)⟩, ⟨by repeat (first | (with_reducible first | exact HB.out | apply below_alloc | apply pw_below_drewN | apply below_drew1 | refine below_set ?_ (IsS75.ge HI0.out)) | exact HB.out)⟩⟩
                · rw [if_neg c54] at H
                  have c54b0 : decide (1 < (x7_1.length : Int)) = false := decide_eq_false c54
                  have c54b1 : decide (1 < x7_1.length) = false := decide_eq_false (by omega)
                  clear c54
                  (first | rw [c54b0] | (simp only [i64_w, i32_w]; rw [c54b0]) | skip)
                  have H' := Aside0.mk H
                  clear H
                  obtain ⟨Ao58, co58, eo58⟩ := Kd.R_slice HO_7.out
                  subst eo58
                  go_wp2
                  go_meet
                  case rel => exact ⟨_, (false), (x1001_1), (by first | rfl | (simp; done) | (simp [*]; done)), H', ⟨by have := HK1.out; have := HJ28.out; first | omega | exact Nat.le_refl _⟩, ⟨by (with_reducible repeat (first | apply Kd.R_alloc | apply Kd.R_drewN | apply Kd.R_drew)); exact HO_7.out⟩, ⟨by repeat (first | (with_reducible first | exact HI0.out | apply IsS75.alloc | apply IsS75.drewN | apply IsS75.drew | apply IsS75.set_1) | exact HI0.out)⟩, ⟨by repeat (first | (with_reducible first | exact HK.out | apply KeepBut.set_ | apply keep_drewN | apply keep_drew | apply keep_alloc) | exact HK.out)⟩, ⟨by repeat (first | (with_reducible first | exact HB.out | apply below_alloc | apply pw_below_drewN | apply below_drew1 | refine below_set ?_ (IsS75.ge HI0.out)) | exact HB.out)⟩⟩
              case rest =>
                clear HC53
                try clear c2
                try clear p2
                try clear q2
                try clear hx2
                try clear c3
                try clear p3
                try clear q3
                try clear hx3
                try clear hf3
                try clear c4
                try clear p4
                try clear q4
                try clear hx4
                try clear hf4
                try clear c5
                try clear hx5
                try clear hf5
                try clear c6
                try clear p6
                try clear p21
                try clear q21
                try clear hx21
                try clear c25
                try clear c30
                try clear c30b0
                try clear c32
                try clear c35
                try clear c35b0
                try clear c36
                try clear c36b0
                try clear c37
                try clear c37b0
                try clear c38
                try clear c38b0
                try clear c39
                try clear p39
                try clear q39
                try clear hx39
                try clear hf39
                try clear c40
                try clear p40
                try clear q40
                try clear hx40
                try clear hf40
                try clear c45
                try clear c48
                try clear hx48
                try clear hf48
                try clear c51
                try clear hx51
                try clear hf51
                try clear c54
                try clear c54b0
                try clear c54b1
                try clear c55
                try clear c56
                try clear hcz46_0
                try clear hcz46_1
                try clear hcz46_2
                try clear hcz50_0
                try clear hcz50_1
                try clear hcz50_2
                try clear hfz46_0
                try clear hfz46_1
                try clear hfz46_2
                try clear hfz50_0
                try clear hfz50_1
                try clear hfz50_2
                try clear hx211_0
                try clear hx211_1
                try clear hx211_2
                try clear hx213_0
                try clear hx213_1
                try clear hx213_2
                try clear hx39_0
                try clear hx39_1
                try clear hx39_2
                try clear hx40_0
                try clear hx40_1
                try clear hx40_2
                try clear hx48_0
                try clear hx48_1
                try clear hx48_2
                try clear hx51_0
                try clear hx51_1
                try clear hx51_2
                try clear p2
                try clear p211
                try clear p213
                try clear p39
                try clear p40
                try clear q211
                try clear q213
                try clear q39
                try clear q40
                obtain ⟨kq, x73_52, x1001_52, rfl, HA, HJ52, HO_7, HI0, HK, HB⟩ := hcut
                cases kq with
                | zero => exact absurd HA.out (by simp [spec_somePieces.j2])
                | succ kj52 =>
                  have H := HA.out
                  clear HA
                  simp only [spec_somePieces.j2] at H
                  have HC59 := Aside0.mk H
                  clear H
                  go_upto_if 73 with (fail)
                  go_cut [7] (fun v7 wc => ∃ (kq : Nat) (x7_58 : List (S47)) (x1001_58 : Int), Aside0 (spec_somePieces.j3 kq x7_58 s0_0 x1001_58 = some (r1, r2)) ∧ Aside0 (kq ≤ kj52) ∧ Aside0 (Kd.R k47 47 wc w.heap.size (fun _ => True) v7 x7_58) ∧ Aside0 (IsS75 w0 wc g s0_0 x1001_58) ∧ Aside0 (KeepBut w wc g none) ∧ Aside0 (Below w0.heap.size w0 wc))
                  case first =>
                    have H := HC59.out
                    clear HC59
                    by_cases c60 : x73_52 = true
                    · subst c60
                      have H1 : ((spec_reader_pick.f kj52 s0_0 x1001_52 (x7_1.length : Int)).bind fun bt218 => ((some (([] : List (S47)) : List (S47))).bind fun y220 => (if 0 ≤ bt218.1 then (if bt218.1 ≤ (x7_1.length : Int) then ((some (x7_1.take (bt218.1 : Int).toNat : List (S47))).bind fun y223 => (if y220.length + y223.length < 5864062014805 then ((some (y220 ++ y223 : List (S47))).bind fun y227 => (if 0 ≤ (wrap64 (bt218.1 + 1)) then (if (wrap64 (bt218.1 + 1)) ≤ (x7_1.length : Int) then ((some (x7_1.drop ((wrap64 (bt218.1 + 1)) : Int).toNat : List (S47))).bind fun y230 => (if y227.length + y230.length < 5864062014805 then (spec_somePieces.j3 kj52 (y227 ++ y230) s0_0 bt218.2) else (none))) else (none)) else (none))) else (none))) else (none)) else (none)))) = some (r1, r2) := by rw [if_pos rfl] at H; exact H
                      clear H
                      have H := H1
                      clear H1
                      replace H := Option.bind_eq_some_iff.mp H
                      obtain ⟨⟨t218, t219⟩, A610, H⟩ := H
                      replace H : ((some (([] : List (S47)) : List (S47))).bind fun y220 => (if 0 ≤ t218 then (if t218 ≤ (x7_1.length : Int) then ((some (x7_1.take (t218 : Int).toNat : List (S47))).bind fun y223 => (if y220.length + y223.length < 5864062014805 then ((some (y220 ++ y223 : List (S47))).bind fun y227 => (if 0 ≤ (wrap64 (t218 + 1)) then (if (wrap64 (t218 + 1)) ≤ (x7_1.length : Int) then ((some (x7_1.drop ((wrap64 (t218 + 1)) : Int).toNat : List (S47))).bind fun y230 => (if y227.length + y230.length < 5864062014805 then (spec_somePieces.j3 kj52 (y227 ++ y230) s0_0 t219) else (none))) else (none)) else (none))) else (none))) else (none)) else (none))) = some (r1, r2) := H
                      have A61 := Aside0.mk A610
                      clear A610
                      obtain ⟨y220, hy220⟩ : ∃ y_ : List (S47), y_ = (([] : List (S47))) := ⟨_, rfl⟩
                      replace H : (if 0 ≤ t218 then (if t218 ≤ (x7_1.length : Int) then ((some (x7_1.take (t218 : Int).toNat : List (S47))).bind fun y223 => (if y220.length + y223.length < 5864062014805 then ((some (y220 ++ y223 : List (S47))).bind fun y227 => (if 0 ≤ (wrap64 (t218 + 1)) then (if (wrap64 (t218 + 1)) ≤ (x7_1.length : Int) then ((some (x7_1.drop ((wrap64 (t218 + 1)) : Int).toNat : List (S47))).bind fun y230 => (if y227.length + y230.length < 5864062014805 then (spec_somePieces.j3 kj52 (y227 ++ y230) s0_0 t219) else (none))) else (none)) else (none))) else (none))) else (none)) else (none)) = some (r1, r2) := by first | (rw [hy220]; with_reducible exact H) | (have H2_ := (Option.bind_some _ _).symm.trans H; rw [hy220]; with_reducible exact H2_) | (have H2_ := (Option.bind_some _ _).symm.trans H; with_reducible exact H2_) | with_reducible exact H | (rw [hy220]; exact H) | exact H
                      have Ny220 := Aside0.mk hy220
                      clear hy220
                      by_cases c62 : 0 ≤ t218
                      · rw [if_pos c62] at H
                        have c62b0 := eq_true c62
                        have c62b1 : decide (0 ≤ t218) = true := decide_eq_true c62
                        clear c62
                        by_cases c63 : t218 ≤ (x7_1.length : Int)
                        · rw [if_pos c63] at H
                          have c63b0 := eq_true c63
                          have c63b1 : decide (t218 ≤ (x7_1.length : Int)) = true := decide_eq_true c63
                          clear c63
                          obtain ⟨y223, hy223⟩ : ∃ y_ : List (S47), y_ = (x7_1.take (t218 : Int).toNat) := ⟨_, rfl⟩
                          replace H : (if y220.length + y223.length < 5864062014805 then ((some (y220 ++ y223 : List (S47))).bind fun y227 => (if 0 ≤ (wrap64 (t218 + 1)) then (if (wrap64 (t218 + 1)) ≤ (x7_1.length : Int) then ((some (x7_1.drop ((wrap64 (t218 + 1)) : Int).toNat : List (S47))).bind fun y230 => (if y227.length + y230.length < 5864062014805 then (spec_somePieces.j3 kj52 (y227 ++ y230) s0_0 t219) else (none))) else (none)) else (none))) else (none)) = some (r1, r2) := by first | (rw [hy223]; with_reducible exact H) | (have H2_ := (Option.bind_some _ _).symm.trans H; rw [hy223]; with_reducible exact H2_) | (have H2_ := (Option.bind_some _ _).symm.trans H; with_reducible exact H2_) | with_reducible exact H | (rw [hy223]; exact H) | exact H
                          have Ny223 := Aside0.mk hy223
                          clear hy223
                          by_cases c64 : y220.length + y223.length < 5864062014805
                          · rw [if_pos c64] at H
                            have LMc64 := Aside0.mk c64
                            clear c64
                            obtain ⟨y227, hy227⟩ : ∃ y_ : List (S47), y_ = (y220 ++ y223) := ⟨_, rfl⟩
                            replace H : (if 0 ≤ (wrap64 (t218 + 1)) then (if (wrap64 (t218 + 1)) ≤ (x7_1.length : Int) then ((some (x7_1.drop ((wrap64 (t218 + 1)) : Int).toNat : List (S47))).bind fun y230 => (if y227.length + y230.length < 5864062014805 then (spec_somePieces.j3 kj52 (y227 ++ y230) s0_0 t219) else (none))) else (none)) else (none)) = some (r1, r2) := by first | (rw [hy227]; with_reducible exact H) | (have H2_ := (Option.bind_some _ _).symm.trans H; rw [hy227]; with_reducible exact H2_) | (have H2_ := (Option.bind_some _ _).symm.trans H; with_reducible exact H2_) | with_reducible exact H | (rw [hy227]; exact H) | exact H
                            have Ny227 := Aside0.mk hy227
                            clear hy227
                            obtain ⟨ji65, hji65⟩ : ∃ j_ : Int, (wrap64 (t218 + 1)) = j_ := ⟨_, rfl⟩
                            replace H : (if 0 ≤ (ji65) then (if (ji65) ≤ (x7_1.length : Int) then ((some (x7_1.drop ((ji65) : Int).toNat : List (S47))).bind fun y230 => (if y227.length + y230.length < 5864062014805 then (spec_somePieces.j3 kj52 (y227 ++ y230) s0_0 t219) else (none))) else (none)) else (none)) = some (r1, r2) := by first | (rw [hji65] at H; exact H) | (simp only [hji65] at H ⊢; exact H)
                            (try rw [hji65] at A61)
                            have hji65w : (IntKind.i64.wrap (t218 + 1)) = ji65 := (i64_w _).trans hji65
                            by_cases c66 : 0 ≤ (ji65)
                            · rw [if_pos c66] at H
                              have c66b0 := eq_true c66
                              have c66b1 : decide (0 ≤ (ji65)) = true := decide_eq_true c66
                              clear c66
                              by_cases c67 : (ji65) ≤ (x7_1.length : Int)
                              · rw [if_pos c67] at H
                                have c67b0 := eq_true c67
                                have c67b1 : decide ((ji65) ≤ (x7_1.length : Int)) = true := decide_eq_true c67
                                clear c67
                                obtain ⟨y230, hy230⟩ : ∃ y_ : List (S47), y_ = (x7_1.drop ((ji65) : Int).toNat) := ⟨_, rfl⟩
                                replace H : (if y227.length + y230.length < 5864062014805 then (spec_somePieces.j3 kj52 (y227 ++ y230) s0_0 t219) else (none)) = some (r1, r2) := by first | (rw [hy230]; with_reducible exact H) | (have H2_ := (Option.bind_some _ _).symm.trans H; rw [hy230]; with_reducible exact H2_) | (have H2_ := (Option.bind_some _ _).symm.trans H; with_reducible exact H2_) | with_reducible exact H | (rw [hy230]; exact H) | exact H
                                have Ny230 := Aside0.mk hy230
                                clear hy230
                                by_cases c68 : y227.length + y230.length < 5864062014805
                                · rw [if_pos c68] at H
                                  have LMc68 := Aside0.mk c68
                                  clear c68
                                  obtain ⟨y234, hy234⟩ : ∃ y_ : List (S47), y_ = (y227 ++ y230) := ⟨_, rfl⟩
                                  replace H : (spec_somePieces.j3 kj52 y234 s0_0 t219) = some (r1, r2) := by first | (rw [hy234]; with_reducible exact H) | (have H2_ := (Option.bind_some _ _).symm.trans H; rw [hy234]; with_reducible exact H2_) | (have H2_ := (Option.bind_some _ _).symm.trans H; with_reducible exact H2_) | with_reducible exact H | (rw [hy234]; exact H) | exact H
                                  have Ny234 := Aside0.mk hy234
                                  clear hy234
                                  have H' := Aside0.mk H
                                  clear H
                                  obtain ⟨Ao69, co69, eo69⟩ := Kd.R_slice HO_7.out
                                  subst eo69
                                  try go_wp2_with (first | ((with_reducible refine gate_callee (f := 55) rfl ?_); refine goesL_ (some 77) rfl rfl Try.func55 (by kernel_rfl) rfl #[.pointer (some ⟨g, 0, none⟩), .int .i64 (x7_1.length : Int)] rfl (by (try simp only [List.map_toArray, List.map_cons, List.map_nil]); first | done | rfl | (simp only [List.length_drop, List.length_take]; rfl)) ?_; (with_reducible refine (spec_reader_pick.calls kj52 g s0_0 x1001_52 (x7_1.length : Int) t218 t219 w0 _ ?side1 ?side2 A61.out).mono ?_); (case side1 => repeat (first | (with_reducible first | exact HI0.out | apply IsS75.alloc | apply IsS75.drewN | apply IsS75.drew | apply IsS75.set_1) | exact HI0.out)); (case side2 => repeat (first | (with_reducible first | exact HB.out | apply below_alloc | apply pw_below_drewN | apply below_drew1 | refine below_set ?_ (IsS75.ge HI0.out)) | exact HB.out)); rintro e w70 ⟨rfl, hi, hb, hk⟩; refine ⟨_, rfl, ?_⟩; have n0_ := Aside0.mk (Kd.R_mono (Kd.R_keep (IsS75.apart (show IsS75 w0 _ g s0_0 x1001_52 from by repeat (first | (with_reducible first | exact HI0.out | apply IsS75.alloc | apply IsS75.drewN | apply IsS75.drew | apply IsS75.set_1) | exact HI0.out)) (by (with_reducible repeat (first | apply Kd.R_alloc | apply Kd.R_drewN | apply Kd.R_drew)); exact HO_7.out) (by decide)) hk (fun _ h => h.2)) (fun _ h => h.1)); have n1_ := Aside0.mk (KeepBut.trans (by repeat (first | (with_reducible first | exact HK.out | apply KeepBut.set_ | apply keep_drewN | apply keep_drew | apply keep_alloc) | exact HK.out)) hk (.inl rfl)); have n2_ := Aside0.mk (hb); have n3_ := Aside0.mk (hi); clear HO_7; clear HK; clear HB; clear HI0; have HO_7 := n0_; have HK := n1_; have HB := n2_; have HI0 := n3_; clear n0_ n1_ n2_ n3_; (try clear hb); (try clear hb2); (try clear hk); (try clear hi)))
                                  have n0_ := Aside0.mk (Kd.R_drew HO_7.out)
                                  have n1_ := Aside0.mk (IsS75.drew HI0.out)
                                  have n2_ := Aside0.mk (keep_drew HK.out)
                                  have n3_ := Aside0.mk (below_drew1 HB.out)
                                  clear HO_7
                                  clear HI0
                                  clear HK
                                  clear HB
                                  have HO_7 := n0_
                                  have HI0 := n1_
                                  have HK := n2_
                                  have HB := n3_
                                  clear n0_ n1_ n2_ n3_
                                  have q72 : (t218 : Int) ≤ ((x7_1.length : Int) : Int) := of_decide_eq_true (by first | (with_reducible assumption) | assumption)
                                  obtain ⟨i072, hi072, _, hsz72, _⟩ := info_parts info47
                                  have hroom72 : x7_1.length ≤ co69 := (Kd.R_reads' HO_7.out).2.1
                                  have hC72 : Kd.C k47 _ Ao69 x7_1.length x7_1 := (Kd.R_reads' HO_7.out).2.2
                                  have hcut72 := cut_to (P := Try.prog) 25 47 .i64 Try.underlying25 hi072 Ao69 x7_1.length co69 t218 (of_decide_eq_true (by first | (with_reducible assumption) | assumption)) q72 hroom72
                                  have hr72 := Kd.C_take (m := (t218 : Int).toNat) hC72 (by omega)
                                  have hy72 : y223.length = (t218 : Int).toNat := (by rw [Ny223.out, List.length_take]; omega)
                                  rw [← Ny223.out] at hr72
                                  rw [← hy72] at hcut72
                                  have HR226 := Aside0.mk hr72
                                  have HC226 := Aside0.mk (show y223.length ≤ co69 from by omega)
                                  clear hr72 hC72 hroom72 hi072 hsz72
                                  have KY72 := Aside0.mk hy72
                                  clear hy72
                                  have KL72 := Aside0.mk (show (t218 : Int).toNat ≤ x7_1.length from by omega)
                                  replace q72 := eq_true q72
                                  have q73 : ((ji65) : Int) ≤ ((x7_1.length : Int) : Int) := of_decide_eq_true (by first | (with_reducible assumption) | assumption)
                                  obtain ⟨i073, hi073, _, hsz73, _⟩ := info_parts info47
                                  have hroom73 : x7_1.length ≤ co69 := (Kd.R_reads' HO_7.out).2.1
                                  have hC73 : Kd.C k47 _ Ao69 x7_1.length x7_1 := (Kd.R_reads' HO_7.out).2.2
                                  have q073 : (0 : Int) ≤ ((ji65) : Int) := of_decide_eq_true (by first | (with_reducible assumption) | assumption)
                                  have hcut73 := cut_from (P := Try.prog) 25 47 .i64 Try.underlying25 hi073 3 hsz73 Ao69 x7_1.length co69 (ji65) q073 q73
                                  have hr73 := Kd.C_drop (m := ((ji65) : Int).toNat) (c := co69) hC73 (by omega) hroom73
                                  obtain ⟨A73, hA73⟩ : ∃ A1, A1 = (if co69 = ((ji65) : Int).toNat then Ao69 else (Ao69 : Option Addr).map (·.add (((ji65) : Int).toNat * 3))) := ⟨_, rfl⟩
                                  obtain ⟨c73, hc73⟩ : ∃ c1, c1 = co69 - ((ji65) : Int).toNat := ⟨_, rfl⟩
                                  have hy73 : y230.length = x7_1.length - ((ji65) : Int).toNat := (by rw [Ny230.out, List.length_drop] <;> omega)
                                  rw [show (x7_1).drop ((ji65) : Int).toNat = y230 from Ny230.out.symm] at hr73
                                  replace hr73 : Kd.C k47 _ A73 y230.length y230 := (by rw [hA73]; exact hr73)
                                  rw [← hy73, ← hA73, ← hc73] at hcut73
                                  have HR233 := Aside0.mk hr73
                                  have HC233 := Aside0.mk (show y230.length ≤ c73 from by rw [hy73, hc73]; exact Nat.sub_le_sub_right hroom73 _)
                                  clear hr73 hC73 hroom73 hi073 hsz73 hc73
                                  have KY73 := Aside0.mk hy73
                                  have KA73 := Aside0.mk hA73
                                  clear hy73 hA73
                                  have KL73 := Aside0.mk (show ((ji65) : Int).toNat ≤ x7_1.length from by omega)
                                  replace q73 := eq_true q73
                                  refine start_ (n := 11) (S := fun w' => True) (ds := []) #[false, false, false, false, false, false, false, false, false, false, false] (by kernel_rfl) rfl rfl trivial (fun hHeld => ?_); refine with_tabW spec_somePieces.tab15 spec_somePieces.bits15 (fun HT_ HW_ => ?_)
                                  generalize w70.drew = w71 at HO_7 HI0 HK HB HR226 HR233 hHeld ⊢
                                  refine pure_ (i := 1) (N := some 79) (v := ?_) (a' := ?_) #[false, true, false, false, false, false, false, false, false, false, false] rfl rfl (any_of HT_.out (by kernel_rfl)) (fun _ _ _ h => h) (Or.inl ⟨by rfl, ?_⟩) ?_ ?_
                                  rotate_left
                                  · intro w'
                                    go_simp
                                    with_reducible rfl
                                  rotate_left
                                  · simp only [Act.put, List.setIfInBounds_toArray, List.set_cons_zero, List.set_cons_succ, i64_w, i32_w]
                                    rfl
                                  refine pure_ (i := 2) (N := some 80) (v := ?_) (a' := ?_) #[false, true, true, false, false, false, false, false, false, false, false] rfl rfl (any_of HT_.out (by kernel_rfl)) (fun _ _ _ h => h) (Or.inl ⟨by rfl, ?_⟩) ?_ ?_
                                  rotate_left
                                  · intro w'
                                    go_simp
                                    with_reducible rfl
                                  rotate_left
                                  · simp only [Act.put, List.setIfInBounds_toArray, List.set_cons_zero, List.set_cons_succ, i64_w, i32_w]
                                    rfl
                                  refine pure_ (i := 3) (N := some 81) (v := ?_) (a' := ?_) #[false, true, true, true, false, false, false, false, false, false, false] rfl rfl (any_of HT_.out (by kernel_rfl)) (fun _ _ _ h => h) (Or.inl ⟨by rfl, ?_⟩) ?_ ?_
                                  rotate_left
                                  · intro w'
                                    go_simp
                                    with_reducible rfl
                                  rotate_left
                                  · simp only [Act.put, List.setIfInBounds_toArray, List.set_cons_zero, List.set_cons_succ, i64_w, i32_w]
                                    rfl
                                  refine pure_ (i := 5) (N := some 83) (v := ?_) (a' := ?_) #[false, true, true, true, false, true, false, false, false, false, false] rfl rfl (any_of HT_.out (by kernel_rfl)) (fun _ _ _ h => h) (Or.inl ⟨by rfl, ?_⟩) ?_ ?_
                                  rotate_left
                                  · intro w'
                                    go_simp
                                    with_reducible rfl
                                  rotate_left
                                  · simp only [Act.put, List.setIfInBounds_toArray, List.set_cons_zero, List.set_cons_succ, i64_w, i32_w]
                                    rfl
                                  refine pure_ (i := 6) (N := some 84) (v := ?_) (a' := ?_) #[false, true, true, true, false, true, true, false, false, false, false] rfl rfl (any_of HT_.out (by kernel_rfl)) (fun _ _ _ h => h) (Or.inl ⟨by rfl, ?_⟩) ?_ ?_
                                  rotate_left
                                  · intro w'
                                    go_simp
                                    with_reducible rfl
                                  rotate_left
                                  · simp only [Act.put, List.setIfInBounds_toArray, List.set_cons_zero, List.set_cons_succ, i64_w, i32_w]
                                    rfl
                                  refine pure_ (i := 7) (N := some 85) (v := ?_) (a' := ?_) #[false, true, true, true, false, true, true, true, false, false, false] rfl rfl (any_of HT_.out (by kernel_rfl)) (fun _ _ _ h => h) (Or.inl ⟨by rfl, ?_⟩) ?_ ?_
                                  rotate_left
                                  · intro w'
                                    go_simp
                                    with_reducible rfl
                                  rotate_left
                                  · simp only [Act.put, List.setIfInBounds_toArray, List.set_cons_zero, List.set_cons_succ, i64_w, i32_w]
                                    rfl
                                  refine pure_ (i := 8) (N := some 86) (v := ?_) (a' := ?_) #[false, true, true, true, false, true, true, true, true, false, false] rfl rfl (any_of HT_.out (by kernel_rfl)) (fun _ _ _ h => h) (Or.inl ⟨by rfl, ?_⟩) ?_ ?_
                                  rotate_left
                                  · intro w'
                                    go_simp
                                    with_reducible rfl
                                  rotate_left
                                  · simp only [Act.put, List.setIfInBounds_toArray, List.set_cons_zero, List.set_cons_succ, i64_w, i32_w]
                                    rfl
                                  refine one_ (i := 0) (N := some 78) #[true, true, true, true, false, true, true, true, true, false, false] rfl rfl (one_of HT_.out (by kernel_rfl)) (by decide) (fun K hK => ?_)
                                  refine Kd.R_lit_step k47 _ 47 ?hg (N := 78) ?hd (xs := ([] : List (S47))) (inner := []) (ok := fun _ => True) (okp := fun _ => True) ?hr ?hp (fun _ hk => hk) trivial (Below.refl _ _) (Nat.le_refl _) (by simp) ?_; (case hd => rfl); (case hg => rfl); (case hr => first | (go_simp; done) | (go_simp; rfl)); (case hp => exact (Reps.none _ _))
                                  intro v221 w74 ho75 hb hg_ hnew_
                                  clear hg_ hnew_
                                  (first | rw [← Ny220.out] at ho75 | (simp only [Int.reduceToNat] at ho75; rw [← Ny220.out] at ho75))
                                  have n0_ := Aside0.mk (Kd.R_elder' (by (with_reducible repeat (first | apply Kd.R_alloc | apply Kd.R_drewN | apply Kd.R_drew)); exact HO_7.out) (Kd.R_base ho75) hb)
                                  have n1_ := Aside0.mk (Kd.R_lower (Kd.R_new' ho75 (Kd.R_lt (by (with_reducible repeat (first | apply Kd.R_alloc | apply Kd.R_drewN | apply Kd.R_drew)); exact HO_7.out))) (keep_size (w := w) (g := g) (row := none) (by repeat (first | (with_reducible first | exact HK.out | apply KeepBut.set_ | apply keep_drewN | apply keep_drew | apply keep_alloc) | exact HK.out))))
                                  have n2_ := Aside0.mk (IsS75.below (by repeat (first | (with_reducible first | exact HI0.out | apply IsS75.alloc | apply IsS75.drewN | apply IsS75.drew | apply IsS75.set_1) | exact HI0.out)) hb)
                                  have n3_ := Aside0.mk (Kd.C_below (by repeat (first | (with_reducible exact HR226.out) | (with_reducible refine Kd.C_alloc ?_ _) | (with_reducible refine Kd.C_drewN ?_ _) | (with_reducible refine Kd.C_drew ?_) | exact HR226.out)) hb)
                                  have n4_ := Aside0.mk (Kd.C_below (by repeat (first | (with_reducible exact HR233.out) | (with_reducible refine Kd.C_alloc ?_ _) | (with_reducible refine Kd.C_drewN ?_ _) | (with_reducible refine Kd.C_drew ?_) | exact HR233.out)) hb)
                                  have n5_ := Aside0.mk (KeepBut.trans (by repeat (first | (with_reducible first | exact HK.out | apply KeepBut.set_ | apply keep_drewN | apply keep_drew | apply keep_alloc) | exact HK.out)) (KeepBut.of_below hb g none) (.inl rfl))
                                  have n6_ := Aside0.mk (below_step (by repeat (first | (with_reducible first | exact HB.out | apply below_alloc | apply pw_below_drewN | apply below_drew1 | refine below_set ?_ (IsS75.ge HI0.out)) | exact HB.out)) hb)
                                  clear HO_7
                                  clear HI0
                                  clear HR226
                                  clear HR233
                                  clear HK
                                  clear HB
                                  have HO_7 := n0_
                                  have HO222 := n1_
                                  have HI0 := n2_
                                  have HR226 := n3_
                                  have HR233 := n4_
                                  have HK := n5_
                                  have HB := n6_
                                  clear n0_ n1_ n2_ n3_ n4_ n5_ n6_
                                  clear hb ho75
                                  refine hK.out _ _ trivial (fun hHeld => ?_)
                                  clear hK K
                                  refine norm_ (a' := ?_) ?_ ?_
                                  rotate_left
                                  · show Act.put _ (some 78) _ = _
                                    simp only [Act.put, List.setIfInBounds_toArray, List.set_cons_zero, List.set_cons_succ, i64_w, i32_w]
                                    rfl
                                  refine one_ (i := 4) (N := some 82) #[true, true, true, true, true, true, true, true, true, false, false] rfl rfl (one_of HT_.out (by kernel_rfl)) (by decide) (fun K hK => ?_)
                                  refine Kd.R_append_rows_step k47 w.heap.size (by rfl) (.tmp 78) (.tmp 81) 25 47 (.agg #[(.int .i64 0), (.int .i64 0), (.bool false)]) 24 rfl Try.underlying25 info47 rfl (by decide) (by omega) v221 y220 y223 _ _ _ (fun k_ => some k_ ≠ (.slice Ao69 x7_1.length co69 : Value).ownBlock) (fun _ => False) rfl rfl ?aO ?aR (fun _ _ h => h) (fun _ h => h.elim) ?aF (Below.refl _ _) ?aS ?aL ?_
                                  (case aR => repeat (first | exact (by repeat (first | (with_reducible exact HR226.out) | (with_reducible refine Kd.C_alloc ?_ _) | (with_reducible refine Kd.C_drewN ?_ _) | (with_reducible refine Kd.C_drew ?_) | exact HR226.out)) | (with_reducible refine Kd.C_alloc ?_ _) | (with_reducible refine Kd.C_drewN ?_ _) | (with_reducible refine Kd.C_drew ?_)))
                                  (case aF => exact (fun k_ hk => Kd.fresh' (Kd.R_lt (by (with_reducible repeat (first | apply Kd.R_alloc | apply Kd.R_drewN | apply Kd.R_drew)); exact HO_7.out)) k_ hk))
                                  (case aO => exact (by (with_reducible repeat (first | apply Kd.R_alloc | apply Kd.R_drewN | apply Kd.R_drew)); exact Kd.R_mono HO222.out (fun _ hk => hk.2)))
                                  (case aS => exact (keep_size (w := w) (g := g) (row := none) (by repeat (first | (with_reducible first | exact HK.out | apply KeepBut.set_ | apply keep_drewN | apply keep_drew | apply keep_alloc) | exact HK.out))))
                                  (case aL => have := LMc64.out; omega)
                                  intro v228 w76 ho hb hg hat
                                  rw [← Ny227.out] at ho
                                  have n0_ := Aside0.mk (Kd.R_after (ok := (fun _ => True)) (by (with_reducible repeat (first | apply Kd.R_alloc | apply Kd.R_drewN | apply Kd.R_drew)); exact HO_7.out) hg hat)
                                  have n1_ := Aside0.mk (IsS75.grown (by repeat (first | (with_reducible first | exact HI0.out | apply IsS75.alloc | apply IsS75.drewN | apply IsS75.drew | apply IsS75.set_1) | exact HI0.out)) hg (IsS75.own_ne HI0.out HO222.out (by decide)))
                                  have n2_ := Aside0.mk (below_weaken (by repeat (first | (with_reducible first | exact HB.out | apply below_alloc | apply pw_below_drewN | apply below_drew1 | refine below_set ?_ (IsS75.ge HI0.out)) | exact HB.out)) HL.out hb)
                                  have n3_ := Aside0.mk (KeepBut.trans (by repeat (first | (with_reducible first | exact HK.out | apply KeepBut.set_ | apply keep_drewN | apply keep_drew | apply keep_alloc) | exact HK.out)) (KeepBut.of_grown hg g) (Kd.R_base2 HO222.out))
                                  have n4_ := Aside0.mk ((show Kd.C k47 w76 Ao69 y223.length y223 from by rw [Ny223.out]; exact Kd.C_take (m := (t218 : Int).toNat) ((Kd.R_reads' (Kd.R_after (ok := (fun _ => True)) (by (with_reducible repeat (first | apply Kd.R_alloc | apply Kd.R_drewN | apply Kd.R_drew)); exact HO_7.out) hg hat)).2.2) KL72.out))
                                  have n5_ := Aside0.mk ((show Kd.C k47 w76 A73 y230.length y230 from by rw [Ny230.out, KA73.out]; exact Kd.C_drop (m := ((ji65) : Int).toNat) (c := co69) ((Kd.R_reads' (Kd.R_after (ok := (fun _ => True)) (by (with_reducible repeat (first | apply Kd.R_alloc | apply Kd.R_drewN | apply Kd.R_drew)); exact HO_7.out) hg hat)).2.2) KL73.out ((Kd.R_reads' (Kd.R_after (ok := (fun _ => True)) (by (with_reducible repeat (first | apply Kd.R_alloc | apply Kd.R_drewN | apply Kd.R_drew)); exact HO_7.out) hg hat)).2.1)))
                                  have n6_ := Aside0.mk (ho)
                                  clear HO_7
                                  clear HI0
                                  clear HB
                                  clear HK
                                  clear HR226
                                  clear HR233
                                  clear HO222
                                  have HO_7 := n0_
                                  have HI0 := n1_
                                  have HB := n2_
                                  have HK := n3_
                                  have HR226 := n4_
                                  have HR233 := n5_
                                  have HO229 := n6_
                                  clear n0_ n1_ n2_ n3_ n4_ n5_ n6_
                                  clear ho hb hg hat
                                  refine hK.out _ _ trivial (fun hHeld => ?_)
                                  clear hK K
                                  refine norm_ (a' := ?_) ?_ ?_
                                  rotate_left
                                  · show Act.put _ (some 82) _ = _
                                    simp only [Act.put, List.setIfInBounds_toArray, List.set_cons_zero, List.set_cons_succ, i64_w, i32_w]
                                    rfl
                                  refine one_ (i := 9) (N := some 87) #[true, true, true, true, true, true, true, true, true, true, false] rfl rfl (one_of HT_.out (by kernel_rfl)) (by decide) (fun K hK => ?_)
                                  refine Kd.R_append_rows_step k47 w.heap.size (by rfl) (.tmp 82) (.tmp 86) 25 47 (.agg #[(.int .i64 0), (.int .i64 0), (.bool false)]) 24 rfl Try.underlying25 info47 rfl (by decide) (by omega) v228 y227 y230 _ _ _ (fun k_ => some k_ ≠ (.slice Ao69 x7_1.length co69 : Value).ownBlock) (fun _ => False) rfl rfl ?aO ?aR (fun _ _ h => h) (fun _ h => h.elim) ?aF (Below.refl _ _) ?aS ?aL ?_
                                  (case aR => repeat (first | exact (by repeat (first | (with_reducible exact HR233.out) | (with_reducible refine Kd.C_alloc ?_ _) | (with_reducible refine Kd.C_drewN ?_ _) | (with_reducible refine Kd.C_drew ?_) | exact HR233.out)) | (with_reducible refine Kd.C_alloc ?_ _) | (with_reducible refine Kd.C_drewN ?_ _) | (with_reducible refine Kd.C_drew ?_)))
                                  (case aF => exact (fun k_ hk => Kd.fresh' (Kd.R_lt (by (with_reducible repeat (first | apply Kd.R_alloc | apply Kd.R_drewN | apply Kd.R_drew)); exact HO_7.out)) k_ hk))
                                  (case aO => exact (by (with_reducible repeat (first | apply Kd.R_alloc | apply Kd.R_drewN | apply Kd.R_drew)); exact HO229.out))
                                  (case aS => exact (keep_size (w := w) (g := g) (row := none) (by repeat (first | (with_reducible first | exact HK.out | apply KeepBut.set_ | apply keep_drewN | apply keep_drew | apply keep_alloc) | exact HK.out))))
                                  (case aL => have := LMc68.out; omega)
                                  intro v235 w77 ho hb hg hat
                                  rw [← Ny234.out] at ho
                                  have n0_ := Aside0.mk (Kd.R_after (ok := (fun _ => True)) (by (with_reducible repeat (first | apply Kd.R_alloc | apply Kd.R_drewN | apply Kd.R_drew)); exact HO_7.out) hg hat)
                                  have n1_ := Aside0.mk (IsS75.grown (by repeat (first | (with_reducible first | exact HI0.out | apply IsS75.alloc | apply IsS75.drewN | apply IsS75.drew | apply IsS75.set_1) | exact HI0.out)) hg (IsS75.own_ne HI0.out HO229.out (by decide)))
                                  have n2_ := Aside0.mk (below_weaken (by repeat (first | (with_reducible first | exact HB.out | apply below_alloc | apply pw_below_drewN | apply below_drew1 | refine below_set ?_ (IsS75.ge HI0.out)) | exact HB.out)) HL.out hb)
                                  have n3_ := Aside0.mk (KeepBut.trans (by repeat (first | (with_reducible first | exact HK.out | apply KeepBut.set_ | apply keep_drewN | apply keep_drew | apply keep_alloc) | exact HK.out)) (KeepBut.of_grown hg g) (Kd.R_base2 HO229.out))
                                  have n4_ := Aside0.mk ((show Kd.C k47 w77 Ao69 y223.length y223 from by rw [Ny223.out]; exact Kd.C_take (m := (t218 : Int).toNat) ((Kd.R_reads' (Kd.R_after (ok := (fun _ => True)) (by (with_reducible repeat (first | apply Kd.R_alloc | apply Kd.R_drewN | apply Kd.R_drew)); exact HO_7.out) hg hat)).2.2) KL72.out))
                                  have n5_ := Aside0.mk ((show Kd.C k47 w77 A73 y230.length y230 from by rw [Ny230.out, KA73.out]; exact Kd.C_drop (m := ((ji65) : Int).toNat) (c := co69) ((Kd.R_reads' (Kd.R_after (ok := (fun _ => True)) (by (with_reducible repeat (first | apply Kd.R_alloc | apply Kd.R_drewN | apply Kd.R_drew)); exact HO_7.out) hg hat)).2.2) KL73.out ((Kd.R_reads' (Kd.R_after (ok := (fun _ => True)) (by (with_reducible repeat (first | apply Kd.R_alloc | apply Kd.R_drewN | apply Kd.R_drew)); exact HO_7.out) hg hat)).2.1)))
                                  have n6_ := Aside0.mk (ho)
                                  clear HO_7
                                  clear HI0
                                  clear HB
                                  clear HK
                                  clear HR226
                                  clear HR233
                                  clear HO229
                                  have HO_7 := n0_
                                  have HI0 := n1_
                                  have HB := n2_
                                  have HK := n3_
                                  have HR226 := n4_
                                  have HR233 := n5_
                                  have HO236 := n6_
                                  clear n0_ n1_ n2_ n3_ n4_ n5_ n6_
                                  clear ho hb hg hat
                                  refine hK.out _ _ trivial (fun hHeld => ?_)
                                  clear hK K
                                  refine norm_ (a' := ?_) ?_ ?_
                                  rotate_left
                                  · show Act.put _ (some 87) _ = _
                                    simp only [Act.put, List.setIfInBounds_toArray, List.set_cons_zero, List.set_cons_succ, i64_w, i32_w]
                                    rfl
                                  refine pure_ (i := 10) (N := some 7) (v := ?_) (a' := ?_) #[true, true, true, true, true, true, true, true, true, true, true] rfl rfl (any_of HT_.out (by kernel_rfl)) (fun _ _ _ h => h) (Or.inl ⟨by rfl, ?_⟩) ?_ ?_
                                  rotate_left
                                  · intro w'
                                    go_simp
                                    with_reducible rfl
                                  rotate_left
                                  · simp only [Act.put, List.setIfInBounds_toArray, List.set_cons_zero, List.set_cons_succ, i64_w, i32_w]
                                    rfl
                                  refine done_ (done_of HT_.out (by kernel_rfl)) ?_
                                  try go_wp2
                                  go_meet
                                  case rel => exact ⟨_, (y234), (t219), H', ⟨by have := HK1.out; have := HJ28.out; have := HJ52.out; first | omega | exact Nat.le_refl _⟩, ⟨by (with_reducible repeat (first | apply Kd.R_alloc | apply Kd.R_drewN | apply Kd.R_drew)); exact Kd.R_mono HO236.out (fun _ hk => trivial)⟩, ⟨by repeat (first | (with_reducible first | exact HI0.out | apply IsS75.alloc | apply IsS75.drewN | apply IsS75.drew | apply IsS75.set_1) | exact HI0.out)⟩, ⟨by repeat (first | (with_reducible first | exact HK.out | apply KeepBut.set_ | apply keep_drewN | apply keep_drew | apply keep_alloc) | exact HK.out)⟩, ⟨by repeat (first | (with_reducible first | exact HB.out | apply below_alloc | apply pw_below_drewN | apply below_drew1 | refine below_set ?_ (IsS75.ge HI0.out)) | exact HB.out)⟩⟩
                                · rw [if_neg c68] at H
                                  exact absurd H (by simp)
                              · rw [if_neg c67] at H
                                exact absurd H (by simp)
                            · rw [if_neg c66] at H
                              exact absurd H (by simp)
                          · rw [if_neg c64] at H
                            exact absurd H (by simp)
                        · rw [if_neg c63] at H
                          exact absurd H (by simp)
                      · rw [if_neg c62] at H
                        exact absurd H (by simp)
                    · replace c60 := Bool.eq_false_iff.mpr c60
                      subst c60
                      have H1 : (spec_somePieces.j3 kj52 x7_1 s0_0 x1001_52) = some (r1, r2) := by rw [if_neg (show ¬ (false = true) by decide)] at H; exact H
                      clear H
                      have H := H1
                      clear H1
                      have H' := Aside0.mk H
                      clear H
                      go_wp2
                      go_meet
                      case rel => exact ⟨_, (x7_1), (x1001_52), H', ⟨by have := HK1.out; have := HJ28.out; have := HJ52.out; first | omega | exact Nat.le_refl _⟩, ⟨by (with_reducible repeat (first | apply Kd.R_alloc | apply Kd.R_drewN | apply Kd.R_drew)); exact HO_7.out⟩, ⟨by repeat (first | (with_reducible first | exact HI0.out | apply IsS75.alloc | apply IsS75.drewN | apply IsS75.drew | apply IsS75.set_1) | exact HI0.out)⟩, ⟨by repeat (first | (with_reducible first | exact HK.out | apply KeepBut.set_ | apply keep_drewN | apply keep_drew | apply keep_alloc) | exact HK.out)⟩, ⟨by repeat (first | (with_reducible first | exact HB.out | apply below_alloc | apply pw_below_drewN | apply below_drew1 | refine below_set ?_ (IsS75.ge HI0.out)) | exact HB.out)⟩⟩
                  case rest =>
                    clear HC59
                    try clear c1
                    try clear c2
                    try clear p2
                    try clear q2
                    try clear hx2
                    try clear c3
                    try clear p3
                    try clear q3
                    try clear hx3
                    try clear hf3
                    try clear c4
                    try clear p4
                    try clear q4
                    try clear hx4
                    try clear hf4
                    try clear c5
                    try clear hx5
                    try clear hf5
                    try clear c6
                    try clear p6
                    try clear c7
                    try clear q7
                    try clear p21
                    try clear q21
                    try clear hx21
                    try clear c25
                    try clear c30
                    try clear c30b0
                    try clear c32
                    try clear c35
                    try clear c35b0
                    try clear c36
                    try clear c36b0
                    try clear c37
                    try clear c37b0
                    try clear c38
                    try clear c38b0
                    try clear c39
                    try clear p39
                    try clear q39
                    try clear hx39
                    try clear hf39
                    try clear c40
                    try clear p40
                    try clear q40
                    try clear hx40
                    try clear hf40
                    try clear c45
                    try clear c48
                    try clear hx48
                    try clear hf48
                    try clear c51
                    try clear hx51
                    try clear hf51
                    try clear c54
                    try clear c54b0
                    try clear c54b1
                    try clear c55
                    try clear c56
                    try clear c60
                    try clear c62
                    try clear c62b0
                    try clear c62b1
                    try clear c63
                    try clear c63b0
                    try clear c63b1
                    try clear c64
                    try clear p64
                    try clear c66
                    try clear c66b0
                    try clear c66b1
                    try clear c67
                    try clear c67b0
                    try clear c67b1
                    try clear c68
                    try clear q72
                    try clear c73
                    try clear q73
                    try clear hcz46_0
                    try clear hcz46_1
                    try clear hcz46_2
                    try clear hcz50_0
                    try clear hcz50_1
                    try clear hcz50_2
                    try clear hfz46_0
                    try clear hfz46_1
                    try clear hfz46_2
                    try clear hfz50_0
                    try clear hfz50_1
                    try clear hfz50_2
                    try clear hx211_0
                    try clear hx211_1
                    try clear hx211_2
                    try clear hx213_0
                    try clear hx213_1
                    try clear hx213_2
                    try clear hx39_0
                    try clear hx39_1
                    try clear hx39_2
                    try clear hx40_0
                    try clear hx40_1
                    try clear hx40_2
                    try clear hx48_0
                    try clear hx48_1
                    try clear hx48_2
                    try clear hx51_0
                    try clear hx51_1
                    try clear hx51_2
                    try clear p2
                    try clear p21
                    try clear p211
                    try clear p213
                    try clear p3
                    try clear p39
                    try clear p4
                    try clear p40
                    try clear p6
                    try clear q073
                    try clear q2
                    try clear q21
                    try clear q211
                    try clear q213
                    try clear q3
                    try clear q39
                    try clear q4
                    try clear q40
                    try clear q72
                    try clear q73
                    obtain ⟨kq, x7_58, x1001_58, HA, HJ58, HO_7, HI0, HK, HB⟩ := hcut
                    cases kq with
                    | zero => exact absurd HA.out (by simp [spec_somePieces.j3])
                    | succ kj58 =>
                      have H := HA.out
                      clear HA
                      simp only [spec_somePieces.j3] at H
                      have HC78 := Aside0.mk H
                      clear H
                      go_upto_region 16 with (fail)
                      go_cut [100] (fun v100 wc => ∃ (kq : Nat) (x100_77 : Bool) (x1001_77 : Int), v100 = .bool x100_77 ∧ Aside0 (spec_somePieces.j4 kq x7_58 x100_77 s0_0 x1001_77 = some (r1, r2)) ∧ Aside0 (kq ≤ kj58) ∧ Aside0 (Kd.R k47 47 wc w.heap.size (fun _ => True) u7 x7_58) ∧ Aside0 (IsS75 w0 wc g s0_0 x1001_77) ∧ Aside0 (KeepBut w wc g none) ∧ Aside0 (Below w0.heap.size w0 wc))
                      case first =>
                        have H := HC78.out
                        clear HC78
                        by_cases c79 : (x7_58.length : Int) > 0
                        · rw [if_pos c79] at H
                          have c79b0 : decide (0 < (x7_58.length : Int)) = true := decide_eq_true c79
                          have c79b1 : decide (0 < x7_58.length) = true := decide_eq_true (by omega)
                          clear c79
                          (first | rw [c79b0] | (simp only [i64_w, i32_w]; rw [c79b0]) | skip)
                          replace H := Option.bind_eq_some_iff.mp H
                          obtain ⟨⟨t237, t238⟩, A800, H⟩ := H
                          replace H : (if t237 = 0 then (spec_somePieces.j4 kj58 x7_58 (decide ((x7_58.length : Int) < 20)) s0_0 t238) else (spec_somePieces.j4 kj58 x7_58 false s0_0 t238)) = some (r1, r2) := H
                          have A80 := Aside0.mk A800
                          clear A800
                          by_cases c81 : t237 = 0
                          · rw [if_pos c81] at H
                            have c81b0 : (t237 == 0) = true := beq_iff_eq.mpr c81
                            have c81b1 : (t237 != 0) = false := bne_eq_false_iff_eq.mpr c81
                            clear c81
                            have H' := Aside0.mk H
                            clear H
                            obtain ⟨Ao82, co82, eo82⟩ := Kd.R_slice HO_7.out
                            subst eo82
                            go_wp2_with (first | (go_at_call 55; (with_reducible refine (spec_reader_pick.calls kj58 g s0_0 x1001_58 3 t237 t238 w0 _ ?side1 ?side2 A80.out).mono ?_); (case side1 => repeat (first | (with_reducible first | exact HI0.out | apply IsS75.alloc | apply IsS75.drewN | apply IsS75.drew | apply IsS75.set_1) | exact HI0.out)); (case side2 => repeat (first | (with_reducible first | exact HB.out | apply below_alloc | apply pw_below_drewN | apply below_drew1 | refine below_set ?_ (IsS75.ge HI0.out)) | exact HB.out)); rintro e w83 ⟨rfl, hi, hb, hk⟩; have n0_ := Aside0.mk (Kd.R_mono (Kd.R_keep (IsS75.apart (show IsS75 w0 _ g s0_0 x1001_58 from by repeat (first | (with_reducible first | exact HI0.out | apply IsS75.alloc | apply IsS75.drewN | apply IsS75.drew | apply IsS75.set_1) | exact HI0.out)) (by (with_reducible repeat (first | apply Kd.R_alloc | apply Kd.R_drewN | apply Kd.R_drew)); exact HO_7.out) (by decide)) hk (fun _ h => h.2)) (fun _ h => h.1)); have n1_ := Aside0.mk (KeepBut.trans (by repeat (first | (with_reducible first | exact HK.out | apply KeepBut.set_ | apply keep_drewN | apply keep_drew | apply keep_alloc) | exact HK.out)) hk (.inl rfl)); have n2_ := Aside0.mk (hb); have n3_ := Aside0.mk (hi); clear HO_7; clear HK; clear HB; clear HI0; have HO_7 := n0_; have HK := n1_; have HB := n2_; have HI0 := n3_; clear n0_ n1_ n2_ n3_; (try clear hb); (try clear hb2); (try clear hk); (try clear hi)))
                            go_meet
                            case rel => exact ⟨_, (decide ((x7_58.length : Int) < 20)), (t238), (by first | rfl | (simp; done) | (simp [*]; done)), H', ⟨by have := HK1.out; have := HJ28.out; have := HJ52.out; have := HJ58.out; first | omega | exact Nat.le_refl _⟩, ⟨by (with_reducible repeat (first | apply Kd.R_alloc | apply Kd.R_drewN | apply Kd.R_drew)); exact HO_7.out⟩, ⟨by repeat (first | (with_reducible first | exact HI0.out | apply IsS75.alloc | apply IsS75.drewN | apply IsS75.drew | apply IsS75.set_1) | exact HI0.out)⟩, ⟨by repeat (first | (with_reducible first | exact HK.out | apply KeepBut.set_ | apply keep_drewN | apply keep_drew | apply keep_alloc) | exact HK.out)⟩, ⟨by repeat (first | (with_reducible first | exact HB.out | apply below_alloc | apply pw_below_drewN | apply below_drew1 | refine below_set ?_ (IsS75.ge HI0.out)) | exact HB.out)⟩⟩
                          · rw [if_neg c81] at H
                            have c81b0 : (t237 == 0) = false := beq_eq_false_iff_ne.mpr c81
                            have c81b1 : (t237 != 0) = true := bne_iff_ne.mpr c81
                            have H' := Aside0.mk H
                            clear H
                            obtain ⟨Ao84, co84, eo84⟩ := Kd.R_slice HO_7.out
                            subst eo84
                            go_wp2_with (first | (go_at_call 55; (with_reducible refine (spec_reader_pick.calls kj58 g s0_0 x1001_58 3 t237 t238 w0 _ ?side1 ?side2 A80.out).mono ?_); (case side1 => repeat (first | (with_reducible first | exact HI0.out | apply IsS75.alloc | apply IsS75.drewN | apply IsS75.drew | apply IsS75.set_1) | exact HI0.out)); (case side2 => repeat (first | (with_reducible first | exact HB.out | apply below_alloc | apply pw_below_drewN | apply below_drew1 | refine below_set ?_ (IsS75.ge HI0.out)) | exact HB.out)); rintro e w85 ⟨rfl, hi, hb, hk⟩; have n0_ := Aside0.mk (Kd.R_mono (Kd.R_keep (IsS75.apart (show IsS75 w0 _ g s0_0 x1001_58 from by repeat (first | (with_reducible first | exact HI0.out | apply IsS75.alloc | apply IsS75.drewN | apply IsS75.drew | apply IsS75.set_1) | exact HI0.out)) (by (with_reducible repeat (first | apply Kd.R_alloc | apply Kd.R_drewN | apply Kd.R_drew)); exact HO_7.out) (by decide)) hk (fun _ h => h.2)) (fun _ h => h.1)); have n1_ := Aside0.mk (KeepBut.trans (by repeat (first | (with_reducible first | exact HK.out | apply KeepBut.set_ | apply keep_drewN | apply keep_drew | apply keep_alloc) | exact HK.out)) hk (.inl rfl)); have n2_ := Aside0.mk (hb); have n3_ := Aside0.mk (hi); clear HO_7; clear HK; clear HB; clear HI0; have HO_7 := n0_; have HK := n1_; have HB := n2_; have HI0 := n3_; clear n0_ n1_ n2_ n3_; (try clear hb); (try clear hb2); (try clear hk); (try clear hi)))
                            go_meet
                            case rel => exact ⟨_, (false), (t238), (by first | rfl | (simp; done) | (simp [*]; done)), H', ⟨by have := HK1.out; have := HJ28.out; have := HJ52.out; have := HJ58.out; first | omega | exact Nat.le_refl _⟩, ⟨by (with_reducible repeat (first | apply Kd.R_alloc | apply Kd.R_drewN | apply Kd.R_drew)); exact HO_7.out⟩, ⟨by repeat (first | (with_reducible first | exact HI0.out | apply IsS75.alloc | apply IsS75.drewN | apply IsS75.drew | apply IsS75.set_1) | exact HI0.out)⟩, ⟨by repeat (first | (with_reducible first | exact HK.out | apply KeepBut.set_ | apply keep_drewN | apply keep_drew | apply keep_alloc) | exact HK.out)⟩, ⟨by repeat (first | (with_reducible first | exact HB.out | apply below_alloc | apply pw_below_drewN | apply below_drew1 | refine below_set ?_ (IsS75.ge HI0.out)) | exact HB.out)⟩⟩
                        · rw [if_neg c79] at H
                          have c79b0 : decide (0 < (x7_58.length : Int)) = false := decide_eq_false c79
                          have c79b1 : decide (0 < x7_58.length) = false := decide_eq_false (by omega)
                          clear c79
                          (first | rw [c79b0] | (simp only [i64_w, i32_w]; rw [c79b0]) | skip)
                          have H' := Aside0.mk H
                          clear H
                          obtain ⟨Ao86, co86, eo86⟩ := Kd.R_slice HO_7.out
                          subst eo86
                          go_wp2
                          go_meet
                          case rel => exact ⟨_, (false), (x1001_58), (by first | rfl | (simp; done) | (simp [*]; done)), H', ⟨by have := HK1.out; have := HJ28.out; have := HJ52.out; have := HJ58.out; first | omega | exact Nat.le_refl _⟩, ⟨by (with_reducible repeat (first | apply Kd.R_alloc | apply Kd.R_drewN | apply Kd.R_drew)); exact HO_7.out⟩, ⟨by repeat (first | (with_reducible first | exact HI0.out | apply IsS75.alloc | apply IsS75.drewN | apply IsS75.drew | apply IsS75.set_1) | exact HI0.out)⟩, ⟨by repeat (first | (with_reducible first | exact HK.out | apply KeepBut.set_ | apply keep_drewN | apply keep_drew | apply keep_alloc) | exact HK.out)⟩, ⟨by repeat (first | (with_reducible first | exact HB.out | apply below_alloc | apply pw_below_drewN | apply below_drew1 | refine below_set ?_ (IsS75.ge HI0.out)) | exact HB.out)⟩⟩
                      case rest =>
                        clear HC78
                        try clear c1
                        try clear c2
                        try clear p2
                        try clear q2
                        try clear hx2
                        try clear c3
                        try clear p3
                        try clear q3
                        try clear hx3
                        try clear hf3
                        try clear c4
                        try clear p4
                        try clear q4
                        try clear hx4
                        try clear hf4
                        try clear c5
                        try clear hx5
                        try clear hf5
                        try clear c6
                        try clear p6
                        try clear c7
                        try clear q7
                        try clear c8
                        try clear p21
                        try clear q21
                        try clear hx21
                        try clear c25
                        try clear c30
                        try clear c30b0
                        try clear c32
                        try clear c35
                        try clear c35b0
                        try clear c36
                        try clear c36b0
                        try clear c37
                        try clear c37b0
                        try clear c38
                        try clear c38b0
                        try clear c39
                        try clear p39
                        try clear q39
                        try clear hx39
                        try clear hf39
                        try clear c40
                        try clear p40
                        try clear q40
                        try clear hx40
                        try clear hf40
                        try clear c45
                        try clear c48
                        try clear hx48
                        try clear hf48
                        try clear c51
                        try clear hx51
                        try clear hf51
                        try clear c54
                        try clear c54b0
                        try clear c54b1
                        try clear c55
                        try clear c56
                        try clear c60
                        try clear c62
                        try clear c62b0
                        try clear c62b1
                        try clear c63
                        try clear c63b0
                        try clear c63b1
                        try clear c64
                        try clear p64
                        try clear c66
                        try clear c66b0
                        try clear c66b1
                        try clear c67
                        try clear c67b0
                        try clear c67b1
                        try clear c68
                        try clear q72
                        try clear c73
                        try clear q73
                        try clear c79
                        try clear c79b0
                        try clear c79b1
                        try clear c81
                        try clear c81b0
                        try clear c81b1
                        try clear hcz46_0
                        try clear hcz46_1
                        try clear hcz46_2
                        try clear hcz50_0
                        try clear hcz50_1
                        try clear hcz50_2
                        try clear hfz46_0
                        try clear hfz46_1
                        try clear hfz46_2
                        try clear hfz50_0
                        try clear hfz50_1
                        try clear hfz50_2
                        try clear hx211_0
                        try clear hx211_1
                        try clear hx211_2
                        try clear hx213_0
                        try clear hx213_1
                        try clear hx213_2
                        try clear hx39_0
                        try clear hx39_1
                        try clear hx39_2
                        try clear hx40_0
                        try clear hx40_1
                        try clear hx40_2
                        try clear hx48_0
                        try clear hx48_1
                        try clear hx48_2
                        try clear hx51_0
                        try clear hx51_1
                        try clear hx51_2
                        try clear p2
                        try clear p21
                        try clear p211
                        try clear p213
                        try clear p3
                        try clear p39
                        try clear p4
                        try clear p40
                        try clear p6
                        try clear p64
                        try clear q073
                        try clear q2
                        try clear q21
                        try clear q211
                        try clear q213
                        try clear q3
                        try clear q39
                        try clear q4
                        try clear q40
                        try clear q7
                        try clear q72
                        try clear q73
                        obtain ⟨kq, x100_77, x1001_77, rfl, HA, HJ77, HO_7, HI0, HK, HB⟩ := hcut
                        cases kq with
                        | zero => exact absurd HA.out (by simp [spec_somePieces.j4])
                        | succ kj77 =>
                          have H := HA.out
                          clear HA
                          simp only [spec_somePieces.j4] at H
                          have HC87 := Aside0.mk H
                          clear H
                          go_upto_if 100 with (fail)
                          go_cut [7] (fun v7 wc => ∃ (kq : Nat) (x7_86 : List (S47)) (x1001_86 : Int), Aside0 (spec_somePieces.j5 kq x7_86 s0_0 x1001_86 = some (r1, r2)) ∧ Aside0 (kq ≤ kj77) ∧ Aside0 (Kd.R k47 47 wc w.heap.size (fun _ => True) v7 x7_86) ∧ Aside0 (IsS75 w0 wc g s0_0 x1001_86) ∧ Aside0 (KeepBut w wc g none) ∧ Aside0 (Below w0.heap.size w0 wc))
                          case first =>
                            have H := HC87.out
                            clear HC87
                            by_cases c88 : x100_77 = true
                            · subst c88
                              have H1 : ((spec_reader_pick.f kj77 s0_0 x1001_77 (x7_58.length : Int)).bind fun bt239 => (if 0 ≤ bt239.1 then (if bt239.1 < (x7_58.length : Int) then (if x7_58.length < 5864062014805 then (spec_somePieces.j5 kj77 (x7_58 ++ [(⟨(rd_T47 x7_58 bt239.1).f0, (rd_T47 x7_58 bt239.1).f1, (rd_T47 x7_58 bt239.1).f2⟩ : S47)]) s0_0 bt239.2) else (none)) else (none)) else (none))) = some (r1, r2) := by rw [if_pos rfl] at H; exact H
                              clear H
                              have H := H1
                              clear H1
                              replace H := Option.bind_eq_some_iff.mp H
                              obtain ⟨⟨t239, t240⟩, A890, H⟩ := H
                              replace H : (if 0 ≤ t239 then (if t239 < (x7_58.length : Int) then (if x7_58.length < 5864062014805 then (spec_somePieces.j5 kj77 (x7_58 ++ [(⟨(rd_T47 x7_58 t239).f0, (rd_T47 x7_58 t239).f1, (rd_T47 x7_58 t239).f2⟩ : S47)]) s0_0 t240) else (none)) else (none)) else (none)) = some (r1, r2) := H
                              have A89 := Aside0.mk A890
                              clear A890
                              by_cases c90 : 0 ≤ t239
                              · rw [if_pos c90] at H
                                have c90b0 : decide (0 ≤ t239) = true := decide_eq_true c90
                                clear c90
                                (first | rw [c90b0] | (simp only [i64_w, i32_w]; rw [c90b0]) | skip)
                                by_cases c91 : t239 < (x7_58.length : Int)
                                · rw [if_pos c91] at H
                                  have c91b0 : decide (t239 < (x7_58.length : Int)) = true := decide_eq_true c91
                                  clear c91
                                  by_cases c92 : x7_58.length < 5864062014805
                                  · rw [if_pos c92] at H
                                    have LMc92 := Aside0.mk c92
                                    clear c92
                                    obtain ⟨y242, hy242⟩ : ∃ y_ : List (S47), y_ = (x7_58 ++ [(⟨(rd_T47 x7_58 t239).f0, (rd_T47 x7_58 t239).f1, (rd_T47 x7_58 t239).f2⟩ : S47)]) := ⟨_, rfl⟩
                                    replace H : (spec_somePieces.j5 kj77 y242 s0_0 t240) = some (r1, r2) := by first | (rw [hy242]; with_reducible exact H) | (have H2_ := (Option.bind_some _ _).symm.trans H; rw [hy242]; with_reducible exact H2_) | (have H2_ := (Option.bind_some _ _).symm.trans H; with_reducible exact H2_) | with_reducible exact H | (rw [hy242]; exact H) | exact H
                                    have Ny242 := Aside0.mk hy242
                                    clear hy242
                                    have H' := Aside0.mk H
                                    clear H
                                    obtain ⟨Ao93, co93, eo93⟩ := Kd.R_slice HO_7.out
                                    subst eo93
                                    go_wp2_with (first | ((with_reducible refine gate_callee (f := 55) rfl ?_); refine goesL_ (some 106) rfl rfl Try.func55 (by kernel_rfl) rfl #[.pointer (some ⟨g, 0, none⟩), .int .i64 (x7_58.length : Int)] rfl (by (try simp only [List.map_toArray, List.map_cons, List.map_nil]); first | done | rfl | (simp only [List.length_drop, List.length_take]; rfl)) ?_; (with_reducible refine (spec_reader_pick.calls kj77 g s0_0 x1001_77 (x7_58.length : Int) t239 t240 w0 _ ?side1 ?side2 A89.out).mono ?_); (case side1 => repeat (first | (with_reducible first | exact HI0.out | apply IsS75.alloc | apply IsS75.drewN | apply IsS75.drew | apply IsS75.set_1) | exact HI0.out)); (case side2 => repeat (first | (with_reducible first | exact HB.out | apply below_alloc | apply pw_below_drewN | apply below_drew1 | refine below_set ?_ (IsS75.ge HI0.out)) | exact HB.out)); rintro e w94 ⟨rfl, hi, hb, hk⟩; refine ⟨_, rfl, ?_⟩; have n0_ := Aside0.mk (Kd.R_mono (Kd.R_keep (IsS75.apart (show IsS75 w0 _ g s0_0 x1001_77 from by repeat (first | (with_reducible first | exact HI0.out | apply IsS75.alloc | apply IsS75.drewN | apply IsS75.drew | apply IsS75.set_1) | exact HI0.out)) (by (with_reducible repeat (first | apply Kd.R_alloc | apply Kd.R_drewN | apply Kd.R_drew)); exact HO_7.out) (by decide)) hk (fun _ h => h.2)) (fun _ h => h.1)); have n1_ := Aside0.mk (KeepBut.trans (by repeat (first | (with_reducible first | exact HK.out | apply KeepBut.set_ | apply keep_drewN | apply keep_drew | apply keep_alloc) | exact HK.out)) hk (.inl rfl)); have n2_ := Aside0.mk (hb); have n3_ := Aside0.mk (hi); clear HO_7; clear HK; clear HB; clear HI0; have HO_7 := n0_; have HK := n1_; have HB := n2_; have HI0 := n3_; clear n0_ n1_ n2_ n3_; (try clear hb); (try clear hb2); (try clear hk); (try clear hi); have p241 : 0 ≤ (t239 : Int) := of_decide_eq_true (by first | (with_reducible assumption) | assumption); have q241 : t239 < (x7_58.length : Int) := of_decide_eq_true (by first | (with_reducible assumption) | assumption); obtain ⟨ad241, e241, hx241_0, hx241_1, hx241_2⟩ := at_T47 (Kd.R_reads' HO_7.out).2.2 t239 p241 q241; cases e241; replace p241 := eq_true p241; replace q241 := eq_true q241) | ((with_reducible refine gate_builtin (b := .append) (xs := #[.tmp 101, .tmp 109]) rfl ?_); (try (refine gate_guard (by rfl) ?_; dsimp only)); at_builtin; refine Kd.R_append k47 w.heap.size rfl (.tmp 101) (.tmp 109) 25 47 (.agg #[(.int .i64 0), (.int .i64 0), (.bool false)]) 24 rfl Try.underlying25 info47 rfl (by decide) (by omega) (.slice (some ad241) x7_58.length co93) x7_58 (⟨(rd_T47 x7_58 t239).f0, (rd_T47 x7_58 t239).f1, (rd_T47 x7_58 t239).f2⟩ : S47) [.int .i64 ((rd_T47 x7_58 t239).f0), .int .i64 ((rd_T47 x7_58 t239).f1), .bool ((rd_T47 x7_58 t239).f2)] (fun _ => True) (fun _ => False) rfl rfl ?aP (fun _ hk => hk.elim) ?aF ?aO (Below.refl _ _) ?aS ?aL ?_; (case aP => exact k47_mkM _ _ _ (⟨(rd_T47 x7_58 t239).f0, (rd_T47 x7_58 t239).f1, (rd_T47 x7_58 t239).f2⟩ : S47)); (case aF => exact (fun _ _ => trivial)); (case aO => exact (by (with_reducible repeat (first | apply Kd.R_alloc | apply Kd.R_drewN | apply Kd.R_drew)); exact HO_7.out)); (case aS => exact (keep_size (w := w) (g := g) (row := none) (by repeat (first | (with_reducible first | exact HK.out | apply KeepBut.set_ | apply keep_drewN | apply keep_drew | apply keep_alloc) | exact HK.out)))); (case aL => have := LMc92.out; omega); intro v243 w95 ho hb hg hat; rw [← Ny242.out] at ho; have n0_ := Aside0.mk (IsS75.grown (by repeat (first | (with_reducible first | exact HI0.out | apply IsS75.alloc | apply IsS75.drewN | apply IsS75.drew | apply IsS75.set_1) | exact HI0.out)) hg (IsS75.own_ne HI0.out HO_7.out (by decide))); have n1_ := Aside0.mk (below_weaken (by repeat (first | (with_reducible first | exact HB.out | apply below_alloc | apply pw_below_drewN | apply below_drew1 | refine below_set ?_ (IsS75.ge HI0.out)) | exact HB.out)) HL.out hb); have n2_ := Aside0.mk (KeepBut.trans (by repeat (first | (with_reducible first | exact HK.out | apply KeepBut.set_ | apply keep_drewN | apply keep_drew | apply keep_alloc) | exact HK.out)) (KeepBut.of_grown hg g) (Kd.R_base2 HO_7.out)); have n3_ := Aside0.mk (ho); clear HI0; clear HB; clear HK; clear HO_7; have HI0 := n0_; have HB := n1_; have HK := n2_; have HO244 := n3_; clear n0_ n1_ n2_ n3_; clear ho hb hg hat))
                                    go_meet
                                    case rel => exact ⟨_, (y242), (t240), H', ⟨by have := HK1.out; have := HJ28.out; have := HJ52.out; have := HJ58.out; have := HJ77.out; first | omega | exact Nat.le_refl _⟩, ⟨by (with_reducible repeat (first | apply Kd.R_alloc | apply Kd.R_drewN | apply Kd.R_drew)); exact HO244.out⟩, ⟨by repeat (first | (with_reducible first | exact HI0.out | apply IsS75.alloc | apply IsS75.drewN | apply IsS75.drew | apply IsS75.set_1) | exact HI0.out)⟩, ⟨by repeat (first | (with_reducible first | exact HK.out | apply KeepBut.set_ | apply keep_drewN | apply keep_drew | apply keep_alloc) | exact HK.out)⟩, ⟨by repeat (first | (with_reducible first | exact HB.out | apply below_alloc | apply pw_below_drewN | apply below_drew1 | refine below_set ?_ (IsS75.ge HI0.out)) | exact HB.out)⟩⟩
                                  · rw [if_neg c92] at H
                                    exact absurd H (by simp)
                                · rw [if_neg c91] at H
                                  exact absurd H (by simp)
                              · rw [if_neg c90] at H
                                exact absurd H (by simp)
                            · replace c88 := Bool.eq_false_iff.mpr c88
                              subst c88
                              have H1 : (spec_somePieces.j5 kj77 x7_58 s0_0 x1001_77) = some (r1, r2) := by rw [if_neg (show ¬ (false = true) by decide)] at H; exact H
                              clear H
                              have H := H1
                              clear H1
                              have H' := Aside0.mk H
                              clear H
                              go_wp2
                              go_meet
                              case rel => exact ⟨_, (x7_58), (x1001_77), H', ⟨by have := HK1.out; have := HJ28.out; have := HJ52.out; have := HJ58.out; have := HJ77.out; first | omega | exact Nat.le_refl _⟩, ⟨by (with_reducible repeat (first | apply Kd.R_alloc | apply Kd.R_drewN | apply Kd.R_drew)); exact HO_7.out⟩, ⟨by repeat (first | (with_reducible first | exact HI0.out | apply IsS75.alloc | apply IsS75.drewN | apply IsS75.drew | apply IsS75.set_1) | exact HI0.out)⟩, ⟨by repeat (first | (with_reducible first | exact HK.out | apply KeepBut.set_ | apply keep_drewN | apply keep_drew | apply keep_alloc) | exact HK.out)⟩, ⟨by repeat (first | (with_reducible first | exact HB.out | apply below_alloc | apply pw_below_drewN | apply below_drew1 | refine below_set ?_ (IsS75.ge HI0.out)) | exact HB.out)⟩⟩
                          case rest =>
                            clear HC87
                            try clear c1
                            try clear c2
                            try clear p2
                            try clear q2
                            try clear hx2
                            try clear c3
                            try clear p3
                            try clear q3
                            try clear hx3
                            try clear hf3
                            try clear c4
                            try clear p4
                            try clear q4
                            try clear hx4
                            try clear hf4
                            try clear c5
                            try clear hx5
                            try clear hf5
                            try clear c6
                            try clear p6
                            try clear c7
                            try clear q7
                            try clear c8
                            try clear c9
                            try clear p21
                            try clear q21
                            try clear hx21
                            try clear p24
                            try clear q24
                            try clear hx24
                            try clear c25
                            try clear c30
                            try clear c30b0
                            try clear c32
                            try clear c35
                            try clear c35b0
                            try clear c36
                            try clear c36b0
                            try clear c37
                            try clear c37b0
                            try clear c38
                            try clear c38b0
                            try clear c39
                            try clear p39
                            try clear q39
                            try clear hx39
                            try clear hf39
                            try clear c40
                            try clear p40
                            try clear q40
                            try clear hx40
                            try clear hf40
                            try clear c45
                            try clear c48
                            try clear hx48
                            try clear hf48
                            try clear c51
                            try clear hx51
                            try clear hf51
                            try clear c54
                            try clear c54b0
                            try clear c54b1
                            try clear c55
                            try clear c56
                            try clear c60
                            try clear c62
                            try clear c62b0
                            try clear c62b1
                            try clear c63
                            try clear c63b0
                            try clear c63b1
                            try clear c64
                            try clear p64
                            try clear c66
                            try clear c66b0
                            try clear c66b1
                            try clear c67
                            try clear c67b0
                            try clear c67b1
                            try clear c68
                            try clear q72
                            try clear c73
                            try clear q73
                            try clear c79
                            try clear c79b0
                            try clear c79b1
                            try clear c81
                            try clear c81b0
                            try clear c81b1
                            try clear c88
                            try clear c90
                            try clear c90b0
                            try clear c91
                            try clear c91b0
                            try clear c92
                            try clear hcz46_0
                            try clear hcz46_1
                            try clear hcz46_2
                            try clear hcz50_0
                            try clear hcz50_1
                            try clear hcz50_2
                            try clear hfz46_0
                            try clear hfz46_1
                            try clear hfz46_2
                            try clear hfz50_0
                            try clear hfz50_1
                            try clear hfz50_2
                            try clear hx211_0
                            try clear hx211_1
                            try clear hx211_2
                            try clear hx213_0
                            try clear hx213_1
                            try clear hx213_2
                            try clear hx241_0
                            try clear hx241_1
                            try clear hx241_2
                            try clear hx39_0
                            try clear hx39_1
                            try clear hx39_2
                            try clear hx40_0
                            try clear hx40_1
                            try clear hx40_2
                            try clear hx48_0
                            try clear hx48_1
                            try clear hx48_2
                            try clear hx51_0
                            try clear hx51_1
                            try clear hx51_2
                            try clear p2
                            try clear p21
                            try clear p211
                            try clear p213
                            try clear p241
                            try clear p3
                            try clear p39
                            try clear p4
                            try clear p40
                            try clear p6
                            try clear p64
                            try clear q073
                            try clear q2
                            try clear q21
                            try clear q211
                            try clear q213
                            try clear q241
                            try clear q3
                            try clear q39
                            try clear q4
                            try clear q40
                            try clear q7
                            try clear q72
                            try clear q73
                            obtain ⟨kq, x7_86, x1001_86, HA, HJ86, HO_7, HI0, HK, HB⟩ := hcut
                            cases kq with
                            | zero => exact absurd HA.out (by simp [spec_somePieces.j5])
                            | succ kj86 =>
                              have H := HA.out
                              clear HA
                              simp only [spec_somePieces.j5] at H
                              by_cases c96 : (x7_86.length : Int) > 0
                              · rw [if_pos c96] at H
                                have c96b0 : decide (0 < (x7_86.length : Int)) = true := decide_eq_true c96
                                have c96b1 : decide (0 < x7_86.length) = true := decide_eq_true (by omega)
                                clear c96
                                replace H := Option.bind_eq_some_iff.mp H
                                obtain ⟨⟨t245, t246⟩, A970, H⟩ := H
                                replace H : (if t245 = 0 then ((spec_reader_one.f kj86 s0_0 t246 (([(-1), 60, 0] : List Int))).bind fun bt250 => (if 0 < (x7_86.length : Int) then (some ((x7_86.set (0 : Int).toNat (⟨bt250.1, (rd_T47 x7_86 0).f1, (rd_T47 x7_86 0).f2⟩ : S47)), bt250.2)) else (none))) else (if t245 = 1 then ((spec_reader_one.f kj86 s0_0 t246 (([0, 61, 2] : List Int))).bind fun bt256 => (if 0 < (x7_86.length : Int) then (some ((x7_86.set (0 : Int).toNat (⟨(rd_T47 x7_86 0).f0, bt256.1, (rd_T47 x7_86 0).f2⟩ : S47)), bt256.2)) else (none))) else (if t245 = 2 then (if 0 < (x7_86.length : Int) then (some ((x7_86.set (0 : Int).toNat (⟨(rd_T47 x7_86 0).f0, (rd_T47 x7_86 0).f1, !((rd_T47 x7_86 0).f2)⟩ : S47)), t246)) else (none)) else (if t245 = 3 then (if 0 < (x7_86.length : Int) then (some ((x7_86.set (0 : Int).toNat (⟨(rd_T47 x7_86 0).f0, wrap64 (((rd_T47 x7_86 0).f1) + 1), (rd_T47 x7_86 0).f2⟩ : S47)), t246)) else (none)) else (some (x7_86, t246)))))) = some (r1, r2) := H
                                have A97 := Aside0.mk A970
                                clear A970
                                by_cases c98 : t245 = 0
                                · rw [if_pos c98] at H
                                  have c98b0 : (t245 == 0) = true := beq_iff_eq.mpr c98
                                  have c98b1 : (t245 != 0) = false := bne_eq_false_iff_eq.mpr c98
                                  clear c98
                                  obtain ⟨y247, hy247⟩ : ∃ y_ : List Int, y_ = (([(-1), 60, 0] : List Int)) := ⟨_, rfl⟩
                                  replace H : ((spec_reader_one.f kj86 s0_0 t246 y247).bind fun bt250 => (if 0 < (x7_86.length : Int) then (some ((x7_86.set (0 : Int).toNat (⟨bt250.1, (rd_T47 x7_86 0).f1, (rd_T47 x7_86 0).f2⟩ : S47)), bt250.2)) else (none))) = some (r1, r2) := by first | (rw [hy247]; with_reducible exact H) | (have H2_ := (Option.bind_some _ _).symm.trans H; rw [hy247]; with_reducible exact H2_) | (have H2_ := (Option.bind_some _ _).symm.trans H; with_reducible exact H2_) | with_reducible exact H | (rw [hy247]; exact H) | exact H
                                  have Ny247 := Aside0.mk hy247
                                  clear hy247
                                  replace H := Option.bind_eq_some_iff.mp H
                                  obtain ⟨⟨t250, t251⟩, A990, H⟩ := H
                                  replace H : (if 0 < (x7_86.length : Int) then (some ((x7_86.set (0 : Int).toNat (⟨t250, (rd_T47 x7_86 0).f1, (rd_T47 x7_86 0).f2⟩ : S47)), t251)) else (none)) = some (r1, r2) := H
                                  have A99 := Aside0.mk A990
                                  clear A990
                                  by_cases c100 : 0 < (x7_86.length : Int)
                                  · rw [if_pos c100] at H
                                    have c100b0 : decide (0 < (x7_86.length : Int)) = true := decide_eq_true c100
                                    have c100b1 : decide (0 < x7_86.length) = true := decide_eq_true (by omega)
                                    clear c100
                                    obtain ⟨y252, hy252⟩ : ∃ y_ : List (S47), y_ = (x7_86.set (0 : Int).toNat (⟨t250, (rd_T47 x7_86 0).f1, (rd_T47 x7_86 0).f2⟩ : S47)) := ⟨_, rfl⟩
                                    replace H : (some (y252, t251)) = some (r1, r2) := by first | (rw [hy252]; with_reducible exact H) | (have H2_ := (Option.bind_some _ _).symm.trans H; rw [hy252]; with_reducible exact H2_) | (have H2_ := (Option.bind_some _ _).symm.trans H; with_reducible exact H2_) | with_reducible exact H | (rw [hy252]; exact H) | exact H
                                    have Ny252 := Aside0.mk hy252
                                    clear hy252
                                    simp only [Option.some.injEq, Prod.mk.injEq] at H
                                    obtain ⟨rfl, rfl⟩ := H
                                    obtain ⟨Ao102, co102, eo102⟩ := Kd.R_slice HO_7.out
                                    subst eo102
                                    go_wp2_with (first | ((with_reducible refine gate_callee (f := 55) rfl ?_); refine goesL_ (some 115) rfl rfl Try.func55 (by kernel_rfl) rfl #[.pointer (some ⟨g, 0, none⟩), .int .i64 24] rfl (by (try simp only [List.map_toArray, List.map_cons, List.map_nil]); first | done | rfl | (simp only [List.length_drop, List.length_take]; rfl)) ?_; (with_reducible refine (spec_reader_pick.calls kj86 g s0_0 x1001_86 24 t245 t246 w0 _ ?side1 ?side2 A97.out).mono ?_); (case side1 => repeat (first | (with_reducible first | exact HI0.out | apply IsS75.alloc | apply IsS75.drewN | apply IsS75.drew | apply IsS75.set_1) | exact HI0.out)); (case side2 => repeat (first | (with_reducible first | exact HB.out | apply below_alloc | apply pw_below_drewN | apply below_drew1 | refine below_set ?_ (IsS75.ge HI0.out)) | exact HB.out)); rintro e w103 ⟨rfl, hi, hb, hk⟩; refine ⟨_, rfl, ?_⟩; have n0_ := Aside0.mk (Kd.R_mono (Kd.R_keep (IsS75.apart (show IsS75 w0 _ g s0_0 x1001_86 from by repeat (first | (with_reducible first | exact HI0.out | apply IsS75.alloc | apply IsS75.drewN | apply IsS75.drew | apply IsS75.set_1) | exact HI0.out)) (by (with_reducible repeat (first | apply Kd.R_alloc | apply Kd.R_drewN | apply Kd.R_drew)); exact HO_7.out) (by decide)) hk (fun _ h => h.2)) (fun _ h => h.1)); have n1_ := Aside0.mk (KeepBut.trans (by repeat (first | (with_reducible first | exact HK.out | apply KeepBut.set_ | apply keep_drewN | apply keep_drew | apply keep_alloc) | exact HK.out)) hk (.inl rfl)); have n2_ := Aside0.mk (hb); have n3_ := Aside0.mk (hi); clear HO_7; clear HK; clear HB; clear HI0; have HO_7 := n0_; have HK := n1_; have HB := n2_; have HI0 := n3_; clear n0_ n1_ n2_ n3_; (try clear hb); (try clear hb2); (try clear hk); (try clear hi)) | ((with_reducible refine gate_dst (N := 120) rfl ?_); (try (refine gate_guard (by rfl) ?_; dsimp only)); refine Kd.R_lit (Kd.int .i64) _ 3 ?hg (N := 120) ?hd (xs := ([(-1), 60, 0] : List Int)) (inner := [.int .i64 (-1), .int .i64 60, .int .i64 0]) (ok := fun _ => True) (okp := fun _ => True) ?hr ?hp (fun _ hk => hk) trivial (Below.refl _ _) (Nat.le_refl _) (by simp) ?_; (case hd => rfl); (case hg => rfl); (case hr => first | (go_simp; done) | (go_simp; rfl)); (case hp => exact (Reps.one (show Kd.M (Kd.int .i64) _ _ _ (-1) [.int .i64 (-1)] from rfl) (Reps.one (show Kd.M (Kd.int .i64) _ _ _ 60 [.int .i64 60] from rfl) (Reps.one (show Kd.M (Kd.int .i64) _ _ _ 0 [.int .i64 0] from rfl) (Reps.none _ _))))); intro v248 w104 ho105 hb hg_ hnew_; clear hg_ hnew_; (first | rw [← Ny247.out] at ho105 | (simp only [Int.reduceToNat] at ho105; rw [← Ny247.out] at ho105)); have n0_ := Aside0.mk (Kd.R_below (by (with_reducible repeat (first | apply Kd.R_alloc | apply Kd.R_drewN | apply Kd.R_drew)); exact HO_7.out) hb); have n1_ := Aside0.mk (Kd.R_lower ho105 (keep_size (w := w) (g := g) (row := none) (by repeat (first | (with_reducible first | exact HK.out | apply KeepBut.set_ | apply keep_drewN | apply keep_drew | apply keep_alloc) | exact HK.out)))); have n2_ := Aside0.mk (IsS75.below (by repeat (first | (with_reducible first | exact HI0.out | apply IsS75.alloc | apply IsS75.drewN | apply IsS75.drew | apply IsS75.set_1) | exact HI0.out)) hb); have n3_ := Aside0.mk (KeepBut.trans (by repeat (first | (with_reducible first | exact HK.out | apply KeepBut.set_ | apply keep_drewN | apply keep_drew | apply keep_alloc) | exact HK.out)) (KeepBut.of_below hb g none) (.inl rfl)); have n4_ := Aside0.mk (below_step (by repeat (first | (with_reducible first | exact HB.out | apply below_alloc | apply pw_below_drewN | apply below_drew1 | refine below_set ?_ (IsS75.ge HI0.out)) | exact HB.out)) hb); clear HO_7; clear HI0; clear HK; clear HB; have HO_7 := n0_; have HO249 := n1_; have HI0 := n2_; have HK := n3_; have HB := n4_; clear n0_ n1_ n2_ n3_ n4_; clear hb ho105; obtain ⟨Ao106, co106, eo106⟩ := Kd.R_slice HO249.out; subst eo106) | ((with_reducible refine gate_callee (f := 54) rfl ?_); refine goesL_ (some 121) rfl rfl Try.func54 (by kernel_rfl) rfl #[.pointer (some ⟨g, 0, none⟩), .slice Ao106 y247.length co106] rfl (by (try simp only [List.map_toArray, List.map_cons, List.map_nil]); first | done | rfl | (simp only [List.length_drop, List.length_take]; rfl)) ?_; (with_reducible refine (spec_reader_one.calls kj86 g s0_0 t246 _ _ y247 t250 t251 w0 _ ?side1 ?side2 ?side3 ?side4 ?side5 A99.out).mono ?_); (case side1 => repeat (first | (with_reducible first | exact HI0.out | apply IsS75.alloc | apply IsS75.drewN | apply IsS75.drew | apply IsS75.set_1) | exact HI0.out)); (case side2 => repeat (first | (with_reducible first | exact HB.out | apply below_alloc | apply pw_below_drewN | apply below_drew1 | refine below_set ?_ (IsS75.ge HI0.out)) | exact HB.out)); (case side3 => repeat (first | exact (Kd.R_reads' HO249.out).2.2 | (with_reducible refine Kd.C_alloc ?_ _) | (with_reducible refine Kd.C_drewN ?_ _) | (with_reducible refine Kd.C_drew ?_))); (case side4 => exact (Kd.R_reads' HO249.out).2.1); (case side5 => exact far_slice (IsS75.own_ne HI0.out HO249.out (by decide))); rintro e w107 ⟨rfl, hi, hb, hk⟩; refine ⟨_, rfl, ?_⟩; have n0_ := Aside0.mk (Kd.R_mono (Kd.R_keep (IsS75.apart (show IsS75 w0 _ g s0_0 t246 from by repeat (first | (with_reducible first | exact HI0.out | apply IsS75.alloc | apply IsS75.drewN | apply IsS75.drew | apply IsS75.set_1) | exact HI0.out)) (by (with_reducible repeat (first | apply Kd.R_alloc | apply Kd.R_drewN | apply Kd.R_drew)); exact HO_7.out) (by decide)) hk (fun _ h => h.2)) (fun _ h => h.1)); have n1_ := Aside0.mk (Kd.R_mono (Kd.R_keep (IsS75.apart (show IsS75 w0 _ g s0_0 t246 from by repeat (first | (with_reducible first | exact HI0.out | apply IsS75.alloc | apply IsS75.drewN | apply IsS75.drew | apply IsS75.set_1) | exact HI0.out)) (by (with_reducible repeat (first | apply Kd.R_alloc | apply Kd.R_drewN | apply Kd.R_drew)); exact HO249.out) (by decide)) hk (fun _ h => h.2)) (fun _ h => h.1)); have n2_ := Aside0.mk (KeepBut.trans (by repeat (first | (with_reducible first | exact HK.out | apply KeepBut.set_ | apply keep_drewN | apply keep_drew | apply keep_alloc) | exact HK.out)) hk (.inl rfl)); have n3_ := Aside0.mk (hb); have n4_ := Aside0.mk (hi); clear HO_7; clear HO249; clear HK; clear HB; clear HI0; have HO_7 := n0_; have HO249 := n1_; have HK := n2_; have HB := n3_; have HI0 := n4_; clear n0_ n1_ n2_ n3_ n4_; (try clear hb); (try clear hb2); (try clear hk); (try clear hi); have p101 : 0 ≤ (0 : Int) := (by omega); have q101 : (0 : Int) < ((x7_86.length : Int) : Int) := of_decide_eq_true (by first | (with_reducible assumption) | assumption); have qi101 : (0 < x7_86.length) = True := eq_true (by omega); obtain ⟨go101, co101, eo101, gb101, gl101, cl101, HG101⟩ := Kd.R_form HO_7.out (by omega); (first | cases eo101 | (injection eo101 with ea_ en_ ec_; (first | subst ea_ | (injection ea_ with ea_; subst ea_)); subst ec_; clear en_)); have GB101 := Aside0.mk gb101; have GG101 := Aside0.mk HG101; clear gb101 gl101 HG101; obtain ⟨ce101, hcl101, hM101, hcc101, hfr101⟩ := Kd.R_elem HO_7.out z47 (0 : Int) p101 q101; obtain rfl := k47_openM hM101; have hx101_0 : w107.cell? ⟨go101, (0 : Int).toNat * 3, none⟩ = some (.int .i64 ((rd_T47 x7_86 0).f0)) := hcc101 0 _ rfl; have hx101_1 : w107.cell? ⟨go101, (0 : Int).toNat * 3 + 1, none⟩ = some (.int .i64 ((rd_T47 x7_86 0).f1)) := hcc101 1 _ rfl; have hx101_2 : w107.cell? ⟨go101, (0 : Int).toNat * 3 + 2, none⟩ = some (.bool ((rd_T47 x7_86 0).f2)) := hcc101 2 _ rfl; have hf101_0 : w107.frozen? ⟨go101, (0 : Int).toNat * 3, none⟩ = false := hfr101 0; have hf101_1 : w107.frozen? ⟨go101, (0 : Int).toNat * 3 + 1, none⟩ = false := hfr101 1; have hf101_2 : w107.frozen? ⟨go101, (0 : Int).toNat * 3 + 2, none⟩ = false := hfr101 2; clear hcl101 hcc101 hfr101 hM101; (try rw [show ((0 : Int)).toNat = 0 from rfl] at hx101_0); (try simp only [Nat.reduceMul, Nat.zero_mul, Nat.zero_add, Nat.reduceAdd] at hx101_0); (try rw [show ((0 : Int)).toNat = 0 from rfl] at hf101_0); (try simp only [Nat.reduceMul, Nat.zero_mul, Nat.zero_add, Nat.reduceAdd] at hf101_0); (try rw [show ((0 : Int)).toNat = 0 from rfl] at hx101_1); (try simp only [Nat.reduceMul, Nat.zero_mul, Nat.zero_add, Nat.reduceAdd] at hx101_1); (try rw [show ((0 : Int)).toNat = 0 from rfl] at hf101_1); (try simp only [Nat.reduceMul, Nat.zero_mul, Nat.zero_add, Nat.reduceAdd] at hf101_1); (try rw [show ((0 : Int)).toNat = 0 from rfl] at hx101_2); (try simp only [Nat.reduceMul, Nat.zero_mul, Nat.zero_add, Nat.reduceAdd] at hx101_2); (try rw [show ((0 : Int)).toNat = 0 from rfl] at hf101_2); (try simp only [Nat.reduceMul, Nat.zero_mul, Nat.zero_add, Nat.reduceAdd] at hf101_2); replace p101 := eq_true p101; replace q101 := eq_true q101; have HX108 := Aside0.mk (show Kd.R k47 47 w107 w.heap.size (fun _ => True) (.slice (some ⟨go101, 0, none⟩) x7_86.length co102) x7_86 from (by (with_reducible repeat (first | apply Kd.R_alloc | apply Kd.R_drewN | apply Kd.R_drew)); exact HO_7.out)); obtain ⟨ce108, hcl108, hM108, hcc108, hfr108⟩ := Kd.R_elem HX108.out z47 (0 : Int) (by omega) (by have h_ : (0 : Int) < ((x7_86.length : Int) : Int) := of_decide_eq_true (by first | (with_reducible assumption) | assumption); first | exact h_ | (have e_ := (Kd.R_reads' HO_7.out).1; omega) | simpa using h_); obtain rfl := k47_openM hM108; have HP108 := Kd.R_seg HX108.out (0 : Int) (by omega) (by have h_ : (0 : Int) < ((x7_86.length : Int) : Int) := of_decide_eq_true (by first | (with_reducible assumption) | assumption); first | exact h_ | (have e_ := (Kd.R_reads' HO_7.out).1; omega) | simpa using h_) (seg := [.int .i64 t250]) (j := 0) hcl108 hcc108 (show 1 ≤ 3 from by decide) (x' := (⟨t250, (rd_T47 x7_86 0).f1, (rd_T47 x7_86 0).f2⟩ : S47)) (k47_mkM _ _ _ (⟨t250, (rd_T47 x7_86 0).f1, (rd_T47 x7_86 0).f2⟩ : S47) ) (fun _ hk => hk); have hx108_0 := hcc108 0 _ rfl; (try simp only [show (k47).sz = 3 from rfl, Nat.mul_one, Nat.add_zero] at hx108_0); (try rw [show ((0 : Int)).toNat = 0 from rfl] at hx108_0); (try simp only [Nat.reduceMul, Nat.zero_mul, Nat.zero_add, Nat.reduceAdd] at hx108_0); have hf108_0 := hfr108 0; (try simp only [show (k47).sz = 3 from rfl, Nat.mul_one, Nat.add_zero] at hf108_0); (try rw [show ((0 : Int)).toNat = 0 from rfl] at hf108_0); (try simp only [Nat.reduceMul, Nat.zero_mul, Nat.zero_add, Nat.reduceAdd] at hf108_0); clear hcl108 hcc108 hfr108 hM108) | ((with_reducible refine gate_store (t := 3) (p := 123) rfl ?_); refine store_event (t := 3) (p := 123) (v := ?vo_w109) (w1 := (w107.setCell ⟨go101, 0, none⟩ (.int .i64 t250))) ?hg ?ho ?hn ?hr ?_; (case ho => rfl); (case hg => rfl); (case hn => rfl); (case hr => first | (go_simp; done) | (go_simp; rfl)); intro w109 hw; have hg : w107.grownBy w109 (some go101) := (by rw [hw]; exact HP108.2); have hp_ : Kd.R k47 47 w109 w.heap.size (fun _ => True) (.slice (some ⟨go101, 0, none⟩) x7_86.length co102) y252 := (by rw [hw, Ny252.out]; exact HP108.1); clear HP108; have n0_ := Aside0.mk (hp_); have n1_ := Aside0.mk (IsS75.grown (by repeat (first | (with_reducible first | exact HI0.out | apply IsS75.alloc | apply IsS75.drewN | apply IsS75.drew | apply IsS75.set_1) | exact HI0.out)) hg (IsS75.own_ne HI0.out HO_7.out (by decide))); have n2_ := Aside0.mk (Kd.R_over' (v := (.slice (some ⟨go101, 0, none⟩) x7_86.length co102)) (by (with_reducible repeat (first | apply Kd.R_alloc | apply Kd.R_drewN | apply Kd.R_drew)); exact HO249.out) (Kd.R_typed HO_7.out) (by decide) hg); have n3_ := Aside0.mk ((by rw [hw]; exact below_set (HB.out) (Nat.le_trans HL.out GB101.out) : Below w0.heap.size w0 w109)); have n4_ := Aside0.mk (KeepBut.trans (by repeat (first | (with_reducible first | exact HK.out | apply KeepBut.set_ | apply keep_drewN | apply keep_drew | apply keep_alloc) | exact HK.out)) (KeepBut.of_grown hg g) (Kd.R_base2 HO_7.out)); clear HO_7; clear HI0; clear HO249; clear HB; clear HK; have HO_7 := n0_; have HI0 := n1_; have HO249 := n2_; have HB := n3_; have HK := n4_; clear n0_ n1_ n2_ n3_ n4_; clear hg hw hp_))
                                    go_ret
                                    exact ⟨_, by first | rfl | (simp [errW_none, errW_some] <;> rfl) | (simp [*, errW_none, errW_some] <;> rfl), by (with_reducible repeat (first | apply Kd.R_alloc | apply Kd.R_drewN | apply Kd.R_drew)); exact HO_7.out, by repeat (first | (with_reducible first | exact HI0.out | apply IsS75.alloc | apply IsS75.drewN | apply IsS75.drew | apply IsS75.set_1) | exact HI0.out), by repeat (first | (with_reducible first | exact HB.out | apply below_alloc | apply pw_below_drewN | apply below_drew1 | refine below_set ?_ (IsS75.ge HI0.out)) | exact HB.out), by repeat (first | (with_reducible first | exact HK.out | apply KeepBut.set_ | apply keep_drewN | apply keep_drew | apply keep_alloc) | exact HK.out)⟩
                                  · rw [if_neg c100] at H
                                    exact absurd H (by simp)
                                · rw [if_neg c98] at H
                                  have c98b0 : (t245 == 0) = false := beq_eq_false_iff_ne.mpr c98
                                  have c98b1 : (t245 != 0) = true := bne_iff_ne.mpr c98
                                  by_cases c110 : t245 = 1
                                  · rw [if_pos c110] at H
                                    have c110b0 : (t245 == 1) = true := beq_iff_eq.mpr c110
                                    have c110b1 : (t245 != 1) = false := bne_eq_false_iff_eq.mpr c110
                                    clear c110
                                    obtain ⟨y253, hy253⟩ : ∃ y_ : List Int, y_ = (([0, 61, 2] : List Int)) := ⟨_, rfl⟩
                                    replace H : ((spec_reader_one.f kj86 s0_0 t246 y253).bind fun bt256 => (if 0 < (x7_86.length : Int) then (some ((x7_86.set (0 : Int).toNat (⟨(rd_T47 x7_86 0).f0, bt256.1, (rd_T47 x7_86 0).f2⟩ : S47)), bt256.2)) else (none))) = some (r1, r2) := by first | (rw [hy253]; with_reducible exact H) | (have H2_ := (Option.bind_some _ _).symm.trans H; rw [hy253]; with_reducible exact H2_) | (have H2_ := (Option.bind_some _ _).symm.trans H; with_reducible exact H2_) | with_reducible exact H | (rw [hy253]; exact H) | exact H
                                    have Ny253 := Aside0.mk hy253
                                    clear hy253
                                    replace H := Option.bind_eq_some_iff.mp H
                                    obtain ⟨⟨t256, t257⟩, A1110, H⟩ := H
                                    replace H : (if 0 < (x7_86.length : Int) then (some ((x7_86.set (0 : Int).toNat (⟨(rd_T47 x7_86 0).f0, t256, (rd_T47 x7_86 0).f2⟩ : S47)), t257)) else (none)) = some (r1, r2) := H
                                    have A111 := Aside0.mk A1110
                                    clear A1110
                                    by_cases c112 : 0 < (x7_86.length : Int)
                                    · rw [if_pos c112] at H
                                      have c112b0 : decide (0 < (x7_86.length : Int)) = true := decide_eq_true c112
                                      have c112b1 : decide (0 < x7_86.length) = true := decide_eq_true (by omega)
                                      clear c112
                                      obtain ⟨y258, hy258⟩ : ∃ y_ : List (S47), y_ = (x7_86.set (0 : Int).toNat (⟨(rd_T47 x7_86 0).f0, t256, (rd_T47 x7_86 0).f2⟩ : S47)) := ⟨_, rfl⟩
                                      replace H : (some (y258, t257)) = some (r1, r2) := by first | (rw [hy258]; with_reducible exact H) | (have H2_ := (Option.bind_some _ _).symm.trans H; rw [hy258]; with_reducible exact H2_) | (have H2_ := (Option.bind_some _ _).symm.trans H; with_reducible exact H2_) | with_reducible exact H | (rw [hy258]; exact H) | exact H
                                      have Ny258 := Aside0.mk hy258
                                      clear hy258
                                      simp only [Option.some.injEq, Prod.mk.injEq] at H
                                      obtain ⟨rfl, rfl⟩ := H
                                      obtain ⟨Ao114, co114, eo114⟩ := Kd.R_slice HO_7.out
                                      subst eo114
                                      go_wp2_with (first | ((with_reducible refine gate_callee (f := 55) rfl ?_); refine goesL_ (some 115) rfl rfl Try.func55 (by kernel_rfl) rfl #[.pointer (some ⟨g, 0, none⟩), .int .i64 24] rfl (by (try simp only [List.map_toArray, List.map_cons, List.map_nil]); first | done | rfl | (simp only [List.length_drop, List.length_take]; rfl)) ?_; (with_reducible refine (spec_reader_pick.calls kj86 g s0_0 x1001_86 24 t245 t246 w0 _ ?side1 ?side2 A97.out).mono ?_); (case side1 => repeat (first | (with_reducible first | exact HI0.out | apply IsS75.alloc | apply IsS75.drewN | apply IsS75.drew | apply IsS75.set_1) | exact HI0.out)); (case side2 => repeat (first | (with_reducible first | exact HB.out | apply below_alloc | apply pw_below_drewN | apply below_drew1 | refine below_set ?_ (IsS75.ge HI0.out)) | exact HB.out)); rintro e w115 ⟨rfl, hi, hb, hk⟩; refine ⟨_, rfl, ?_⟩; have n0_ := Aside0.mk (Kd.R_mono (Kd.R_keep (IsS75.apart (show IsS75 w0 _ g s0_0 x1001_86 from by repeat (first | (with_reducible first | exact HI0.out | apply IsS75.alloc | apply IsS75.drewN | apply IsS75.drew | apply IsS75.set_1) | exact HI0.out)) (by (with_reducible repeat (first | apply Kd.R_alloc | apply Kd.R_drewN | apply Kd.R_drew)); exact HO_7.out) (by decide)) hk (fun _ h => h.2)) (fun _ h => h.1)); have n1_ := Aside0.mk (KeepBut.trans (by repeat (first | (with_reducible first | exact HK.out | apply KeepBut.set_ | apply keep_drewN | apply keep_drew | apply keep_alloc) | exact HK.out)) hk (.inl rfl)); have n2_ := Aside0.mk (hb); have n3_ := Aside0.mk (hi); clear HO_7; clear HK; clear HB; clear HI0; have HO_7 := n0_; have HK := n1_; have HB := n2_; have HI0 := n3_; clear n0_ n1_ n2_ n3_; (try clear hb); (try clear hb2); (try clear hk); (try clear hi)) | ((with_reducible refine gate_dst (N := 128) rfl ?_); (try (refine gate_guard (by rfl) ?_; dsimp only)); refine Kd.R_lit (Kd.int .i64) _ 3 ?hg (N := 128) ?hd (xs := ([0, 61, 2] : List Int)) (inner := [.int .i64 0, .int .i64 61, .int .i64 2]) (ok := fun _ => True) (okp := fun _ => True) ?hr ?hp (fun _ hk => hk) trivial (Below.refl _ _) (Nat.le_refl _) (by simp) ?_; (case hd => rfl); (case hg => rfl); (case hr => first | (go_simp; done) | (go_simp; rfl)); (case hp => exact (Reps.one (show Kd.M (Kd.int .i64) _ _ _ 0 [.int .i64 0] from rfl) (Reps.one (show Kd.M (Kd.int .i64) _ _ _ 61 [.int .i64 61] from rfl) (Reps.one (show Kd.M (Kd.int .i64) _ _ _ 2 [.int .i64 2] from rfl) (Reps.none _ _))))); intro v254 w116 ho117 hb hg_ hnew_; clear hg_ hnew_; (first | rw [← Ny253.out] at ho117 | (simp only [Int.reduceToNat] at ho117; rw [← Ny253.out] at ho117)); have n0_ := Aside0.mk (Kd.R_below (by (with_reducible repeat (first | apply Kd.R_alloc | apply Kd.R_drewN | apply Kd.R_drew)); exact HO_7.out) hb); have n1_ := Aside0.mk (Kd.R_lower ho117 (keep_size (w := w) (g := g) (row := none) (by repeat (first | (with_reducible first | exact HK.out | apply KeepBut.set_ | apply keep_drewN | apply keep_drew | apply keep_alloc) | exact HK.out)))); have n2_ := Aside0.mk (IsS75.below (by repeat (first | (with_reducible first | exact HI0.out | apply IsS75.alloc | apply IsS75.drewN | apply IsS75.drew | apply IsS75.set_1) | exact HI0.out)) hb); have n3_ := Aside0.mk (KeepBut.trans (by repeat (first | (with_reducible first | exact HK.out | apply KeepBut.set_ | apply keep_drewN | apply keep_drew | apply keep_alloc) | exact HK.out)) (KeepBut.of_below hb g none) (.inl rfl)); have n4_ := Aside0.mk (below_step (by repeat (first | (with_reducible first | exact HB.out | apply below_alloc | apply pw_below_drewN | apply below_drew1 | refine below_set ?_ (IsS75.ge HI0.out)) | exact HB.out)) hb); clear HO_7; clear HI0; clear HK; clear HB; have HO_7 := n0_; have HO255 := n1_; have HI0 := n2_; have HK := n3_; have HB := n4_; clear n0_ n1_ n2_ n3_ n4_; clear hb ho117; obtain ⟨Ao118, co118, eo118⟩ := Kd.R_slice HO255.out; subst eo118) | ((with_reducible refine gate_callee (f := 54) rfl ?_); refine goesL_ (some 129) rfl rfl Try.func54 (by kernel_rfl) rfl #[.pointer (some ⟨g, 0, none⟩), .slice Ao118 y253.length co118] rfl (by (try simp only [List.map_toArray, List.map_cons, List.map_nil]); first | done | rfl | (simp only [List.length_drop, List.length_take]; rfl)) ?_; (with_reducible refine (spec_reader_one.calls kj86 g s0_0 t246 _ _ y253 t256 t257 w0 _ ?side1 ?side2 ?side3 ?side4 ?side5 A111.out).mono ?_); (case side1 => repeat (first | (with_reducible first | exact HI0.out | apply IsS75.alloc | apply IsS75.drewN | apply IsS75.drew | apply IsS75.set_1) | exact HI0.out)); (case side2 => repeat (first | (with_reducible first | exact HB.out | apply below_alloc | apply pw_below_drewN | apply below_drew1 | refine below_set ?_ (IsS75.ge HI0.out)) | exact HB.out)); (case side3 => repeat (first | exact (Kd.R_reads' HO255.out).2.2 | (with_reducible refine Kd.C_alloc ?_ _) | (with_reducible refine Kd.C_drewN ?_ _) | (with_reducible refine Kd.C_drew ?_))); (case side4 => exact (Kd.R_reads' HO255.out).2.1); (case side5 => exact far_slice (IsS75.own_ne HI0.out HO255.out (by decide))); rintro e w119 ⟨rfl, hi, hb, hk⟩; refine ⟨_, rfl, ?_⟩; have n0_ := Aside0.mk (Kd.R_mono (Kd.R_keep (IsS75.apart (show IsS75 w0 _ g s0_0 t246 from by repeat (first | (with_reducible first | exact HI0.out | apply IsS75.alloc | apply IsS75.drewN | apply IsS75.drew | apply IsS75.set_1) | exact HI0.out)) (by (with_reducible repeat (first | apply Kd.R_alloc | apply Kd.R_drewN | apply Kd.R_drew)); exact HO_7.out) (by decide)) hk (fun _ h => h.2)) (fun _ h => h.1)); have n1_ := Aside0.mk (Kd.R_mono (Kd.R_keep (IsS75.apart (show IsS75 w0 _ g s0_0 t246 from by repeat (first | (with_reducible first | exact HI0.out | apply IsS75.alloc | apply IsS75.drewN | apply IsS75.drew | apply IsS75.set_1) | exact HI0.out)) (by (with_reducible repeat (first | apply Kd.R_alloc | apply Kd.R_drewN | apply Kd.R_drew)); exact HO255.out) (by decide)) hk (fun _ h => h.2)) (fun _ h => h.1)); have n2_ := Aside0.mk (KeepBut.trans (by repeat (first | (with_reducible first | exact HK.out | apply KeepBut.set_ | apply keep_drewN | apply keep_drew | apply keep_alloc) | exact HK.out)) hk (.inl rfl)); have n3_ := Aside0.mk (hb); have n4_ := Aside0.mk (hi); clear HO_7; clear HO255; clear HK; clear HB; clear HI0; have HO_7 := n0_; have HO255 := n1_; have HK := n2_; have HB := n3_; have HI0 := n4_; clear n0_ n1_ n2_ n3_ n4_; (try clear hb); (try clear hb2); (try clear hk); (try clear hi); have p113 : 0 ≤ (0 : Int) := (by omega); have q113 : (0 : Int) < ((x7_86.length : Int) : Int) := of_decide_eq_true (by first | (with_reducible assumption) | assumption); have qi113 : (0 < x7_86.length) = True := eq_true (by omega); obtain ⟨go113, co113, eo113, gb113, gl113, cl113, HG113⟩ := Kd.R_form HO_7.out (by omega); (first | cases eo113 | (injection eo113 with ea_ en_ ec_; (first | subst ea_ | (injection ea_ with ea_; subst ea_)); subst ec_; clear en_)); have GB113 := Aside0.mk gb113; have GG113 := Aside0.mk HG113; clear gb113 gl113 HG113; obtain ⟨ce113, hcl113, hM113, hcc113, hfr113⟩ := Kd.R_elem HO_7.out z47 (0 : Int) p113 q113; obtain rfl := k47_openM hM113; have hx113_0 : w119.cell? ⟨go113, (0 : Int).toNat * 3, none⟩ = some (.int .i64 ((rd_T47 x7_86 0).f0)) := hcc113 0 _ rfl; have hx113_1 : w119.cell? ⟨go113, (0 : Int).toNat * 3 + 1, none⟩ = some (.int .i64 ((rd_T47 x7_86 0).f1)) := hcc113 1 _ rfl; have hx113_2 : w119.cell? ⟨go113, (0 : Int).toNat * 3 + 2, none⟩ = some (.bool ((rd_T47 x7_86 0).f2)) := hcc113 2 _ rfl; have hf113_0 : w119.frozen? ⟨go113, (0 : Int).toNat * 3, none⟩ = false := hfr113 0; have hf113_1 : w119.frozen? ⟨go113, (0 : Int).toNat * 3 + 1, none⟩ = false := hfr113 1; have hf113_2 : w119.frozen? ⟨go113, (0 : Int).toNat * 3 + 2, none⟩ = false := hfr113 2; clear hcl113 hcc113 hfr113 hM113; (try rw [show ((0 : Int)).toNat = 0 from rfl] at hx113_0); (try simp only [Nat.reduceMul, Nat.zero_mul, Nat.zero_add, Nat.reduceAdd] at hx113_0); (try rw [show ((0 : Int)).toNat = 0 from rfl] at hf113_0); (try simp only [Nat.reduceMul, Nat.zero_mul, Nat.zero_add, Nat.reduceAdd] at hf113_0); (try rw [show ((0 : Int)).toNat = 0 from rfl] at hx113_1); (try simp only [Nat.reduceMul, Nat.zero_mul, Nat.zero_add, Nat.reduceAdd] at hx113_1); (try rw [show ((0 : Int)).toNat = 0 from rfl] at hf113_1); (try simp only [Nat.reduceMul, Nat.zero_mul, Nat.zero_add, Nat.reduceAdd] at hf113_1); (try rw [show ((0 : Int)).toNat = 0 from rfl] at hx113_2); (try simp only [Nat.reduceMul, Nat.zero_mul, Nat.zero_add, Nat.reduceAdd] at hx113_2); (try rw [show ((0 : Int)).toNat = 0 from rfl] at hf113_2); (try simp only [Nat.reduceMul, Nat.zero_mul, Nat.zero_add, Nat.reduceAdd] at hf113_2); replace p113 := eq_true p113; replace q113 := eq_true q113; have HX120 := Aside0.mk (show Kd.R k47 47 w119 w.heap.size (fun _ => True) (.slice (some ⟨go113, 0, none⟩) x7_86.length co114) x7_86 from (by (with_reducible repeat (first | apply Kd.R_alloc | apply Kd.R_drewN | apply Kd.R_drew)); exact HO_7.out)); obtain ⟨ce120, hcl120, hM120, hcc120, hfr120⟩ := Kd.R_elem HX120.out z47 (0 : Int) (by omega) (by have h_ : (0 : Int) < ((x7_86.length : Int) : Int) := of_decide_eq_true (by first | (with_reducible assumption) | assumption); first | exact h_ | (have e_ := (Kd.R_reads' HO_7.out).1; omega) | simpa using h_); obtain rfl := k47_openM hM120; have HP120 := Kd.R_seg HX120.out (0 : Int) (by omega) (by have h_ : (0 : Int) < ((x7_86.length : Int) : Int) := of_decide_eq_true (by first | (with_reducible assumption) | assumption); first | exact h_ | (have e_ := (Kd.R_reads' HO_7.out).1; omega) | simpa using h_) (seg := [.int .i64 t256]) (j := 1) hcl120 hcc120 (show 2 ≤ 3 from by decide) (x' := (⟨(rd_T47 x7_86 0).f0, t256, (rd_T47 x7_86 0).f2⟩ : S47)) (k47_mkM _ _ _ (⟨(rd_T47 x7_86 0).f0, t256, (rd_T47 x7_86 0).f2⟩ : S47) ) (fun _ hk => hk); have hx120_1 := hcc120 1 _ rfl; (try simp only [show (k47).sz = 3 from rfl, Nat.mul_one, Nat.add_zero] at hx120_1); (try rw [show ((0 : Int)).toNat = 0 from rfl] at hx120_1); (try simp only [Nat.reduceMul, Nat.zero_mul, Nat.zero_add, Nat.reduceAdd] at hx120_1); have hf120_1 := hfr120 1; (try simp only [show (k47).sz = 3 from rfl, Nat.mul_one, Nat.add_zero] at hf120_1); (try rw [show ((0 : Int)).toNat = 0 from rfl] at hf120_1); (try simp only [Nat.reduceMul, Nat.zero_mul, Nat.zero_add, Nat.reduceAdd] at hf120_1); clear hcl120 hcc120 hfr120 hM120) | ((with_reducible refine gate_store (t := 3) (p := 131) rfl ?_); refine store_event (t := 3) (p := 131) (v := ?vo_w121) (w1 := (w119.setCell ⟨go113, 1, none⟩ (.int .i64 t256))) ?hg ?ho ?hn ?hr ?_; (case ho => rfl); (case hg => rfl); (case hn => rfl); (case hr => first | (go_simp; done) | (go_simp; rfl)); intro w121 hw; have hg : w119.grownBy w121 (some go113) := (by rw [hw]; exact HP120.2); have hp_ : Kd.R k47 47 w121 w.heap.size (fun _ => True) (.slice (some ⟨go113, 0, none⟩) x7_86.length co114) y258 := (by rw [hw, Ny258.out]; exact HP120.1); clear HP120; have n0_ := Aside0.mk (hp_); have n1_ := Aside0.mk (IsS75.grown (by repeat (first | (with_reducible first | exact HI0.out | apply IsS75.alloc | apply IsS75.drewN | apply IsS75.drew | apply IsS75.set_1) | exact HI0.out)) hg (IsS75.own_ne HI0.out HO_7.out (by decide))); have n2_ := Aside0.mk (Kd.R_over' (v := (.slice (some ⟨go113, 0, none⟩) x7_86.length co114)) (by (with_reducible repeat (first | apply Kd.R_alloc | apply Kd.R_drewN | apply Kd.R_drew)); exact HO255.out) (Kd.R_typed HO_7.out) (by decide) hg); have n3_ := Aside0.mk ((by rw [hw]; exact below_set (HB.out) (Nat.le_trans HL.out GB113.out) : Below w0.heap.size w0 w121)); have n4_ := Aside0.mk (KeepBut.trans (by repeat (first | (with_reducible first | exact HK.out | apply KeepBut.set_ | apply keep_drewN | apply keep_drew | apply keep_alloc) | exact HK.out)) (KeepBut.of_grown hg g) (Kd.R_base2 HO_7.out)); clear HO_7; clear HI0; clear HO255; clear HB; clear HK; have HO_7 := n0_; have HI0 := n1_; have HO255 := n2_; have HB := n3_; have HK := n4_; clear n0_ n1_ n2_ n3_ n4_; clear hg hw hp_))
                                      go_ret
                                      exact ⟨_, by first | rfl | (simp [errW_none, errW_some] <;> rfl) | (simp [*, errW_none, errW_some] <;> rfl), by (with_reducible repeat (first | apply Kd.R_alloc | apply Kd.R_drewN | apply Kd.R_drew)); exact HO_7.out, by repeat (first | (with_reducible first | exact HI0.out | apply IsS75.alloc | apply IsS75.drewN | apply IsS75.drew | apply IsS75.set_1) | exact HI0.out), by repeat (first | (with_reducible first | exact HB.out | apply below_alloc | apply pw_below_drewN | apply below_drew1 | refine below_set ?_ (IsS75.ge HI0.out)) | exact HB.out), by repeat (first | (with_reducible first | exact HK.out | apply KeepBut.set_ | apply keep_drewN | apply keep_drew | apply keep_alloc) | exact HK.out)⟩
                                    · rw [if_neg c112] at H
                                      exact absurd H (by simp)
                                  · rw [if_neg c110] at H
                                    have c110b0 : (t245 == 1) = false := beq_eq_false_iff_ne.mpr c110
                                    have c110b1 : (t245 != 1) = true := bne_iff_ne.mpr c110
                                    by_cases c122 : t245 = 2
                                    · rw [if_pos c122] at H
                                      have c122b0 : (t245 == 2) = true := beq_iff_eq.mpr c122
                                      have c122b1 : (t245 != 2) = false := bne_eq_false_iff_eq.mpr c122
                                      clear c122
                                      by_cases c123 : 0 < (x7_86.length : Int)
                                      · rw [if_pos c123] at H
                                        have c123b0 : decide (0 < (x7_86.length : Int)) = true := decide_eq_true c123
                                        have c123b1 : decide (0 < x7_86.length) = true := decide_eq_true (by omega)
                                        clear c123
                                        obtain ⟨y260, hy260⟩ : ∃ y_ : List (S47), y_ = (x7_86.set (0 : Int).toNat (⟨(rd_T47 x7_86 0).f0, (rd_T47 x7_86 0).f1, !((rd_T47 x7_86 0).f2)⟩ : S47)) := ⟨_, rfl⟩
                                        replace H : (some (y260, t246)) = some (r1, r2) := by first | (rw [hy260]; with_reducible exact H) | (have H2_ := (Option.bind_some _ _).symm.trans H; rw [hy260]; with_reducible exact H2_) | (have H2_ := (Option.bind_some _ _).symm.trans H; with_reducible exact H2_) | with_reducible exact H | (rw [hy260]; exact H) | exact H
                                        have Ny260 := Aside0.mk hy260
                                        clear hy260
                                        simp only [Option.some.injEq, Prod.mk.injEq] at H
                                        obtain ⟨rfl, rfl⟩ := H
                                        obtain ⟨Ao125, co125, eo125⟩ := Kd.R_slice HO_7.out
                                        subst eo125
                                        go_wp2_with (first | ((with_reducible refine gate_callee (f := 55) rfl ?_); refine goesL_ (some 115) rfl rfl Try.func55 (by kernel_rfl) rfl #[.pointer (some ⟨g, 0, none⟩), .int .i64 24] rfl (by (try simp only [List.map_toArray, List.map_cons, List.map_nil]); first | done | rfl | (simp only [List.length_drop, List.length_take]; rfl)) ?_; (with_reducible refine (spec_reader_pick.calls kj86 g s0_0 x1001_86 24 t245 t246 w0 _ ?side1 ?side2 A97.out).mono ?_); (case side1 => repeat (first | (with_reducible first | exact HI0.out | apply IsS75.alloc | apply IsS75.drewN | apply IsS75.drew | apply IsS75.set_1) | exact HI0.out)); (case side2 => repeat (first | (with_reducible first | exact HB.out | apply below_alloc | apply pw_below_drewN | apply below_drew1 | refine below_set ?_ (IsS75.ge HI0.out)) | exact HB.out)); rintro e w126 ⟨rfl, hi, hb, hk⟩; refine ⟨_, rfl, ?_⟩; have n0_ := Aside0.mk (Kd.R_mono (Kd.R_keep (IsS75.apart (show IsS75 w0 _ g s0_0 x1001_86 from by repeat (first | (with_reducible first | exact HI0.out | apply IsS75.alloc | apply IsS75.drewN | apply IsS75.drew | apply IsS75.set_1) | exact HI0.out)) (by (with_reducible repeat (first | apply Kd.R_alloc | apply Kd.R_drewN | apply Kd.R_drew)); exact HO_7.out) (by decide)) hk (fun _ h => h.2)) (fun _ h => h.1)); have n1_ := Aside0.mk (KeepBut.trans (by repeat (first | (with_reducible first | exact HK.out | apply KeepBut.set_ | apply keep_drewN | apply keep_drew | apply keep_alloc) | exact HK.out)) hk (.inl rfl)); have n2_ := Aside0.mk (hb); have n3_ := Aside0.mk (hi); clear HO_7; clear HK; clear HB; clear HI0; have HO_7 := n0_; have HK := n1_; have HB := n2_; have HI0 := n3_; clear n0_ n1_ n2_ n3_; (try clear hb); (try clear hb2); (try clear hk); (try clear hi); have p259 : 0 ≤ (0 : Int) := (by omega); have q259 : 0 < (x7_86.length : Int) := of_decide_eq_true (by first | (with_reducible assumption) | assumption); obtain ⟨ad259, e259, hx259_0, hx259_1, hx259_2⟩ := at_T47 (Kd.R_reads' HO_7.out).2.2 0 p259 q259; cases e259; have qi259 : (0 < x7_86.length) = True := eq_true (by omega); (try rw [show ((0 : Int)).toNat = 0 from rfl] at hx259_0); (try rw [show 0 * 3 = 0 from rfl] at hx259_0); (try rw [Addr.add_zero'] at hx259_0); (try rw [show ((0 : Int)).toNat = 0 from rfl] at hx259_1); (try rw [show 0 * 3 = 0 from rfl] at hx259_1); (try rw [Addr.add_zero'] at hx259_1); (try rw [show ((0 : Int)).toNat = 0 from rfl] at hx259_2); (try rw [show 0 * 3 = 0 from rfl] at hx259_2); (try rw [Addr.add_zero'] at hx259_2); replace p259 := eq_true p259; replace q259 := eq_true q259; have p124 : 0 ≤ (0 : Int) := (by omega); have q124 : (0 : Int) < ((x7_86.length : Int) : Int) := of_decide_eq_true (by first | (with_reducible assumption) | assumption); have qi124 : (0 < x7_86.length) = True := eq_true (by omega); obtain ⟨go124, co124, eo124, gb124, gl124, cl124, HG124⟩ := Kd.R_form HO_7.out (by omega); (first | cases eo124 | (injection eo124 with ea_ en_ ec_; (first | subst ea_ | (injection ea_ with ea_; subst ea_)); subst ec_; clear en_)); have GB124 := Aside0.mk gb124; have GG124 := Aside0.mk HG124; clear gb124 gl124 HG124; (first | simp only [add_plain] at hx259_0 | skip); (first | simp only [add_plain] at hx259_1 | skip); (first | simp only [add_plain] at hx259_2 | skip); obtain ⟨ce124, hcl124, hM124, hcc124, hfr124⟩ := Kd.R_elem HO_7.out z47 (0 : Int) p124 q124; obtain rfl := k47_openM hM124; have hx124_0 : w126.cell? ⟨go124, (0 : Int).toNat * 3, none⟩ = some (.int .i64 ((rd_T47 x7_86 0).f0)) := hcc124 0 _ rfl; have hx124_1 : w126.cell? ⟨go124, (0 : Int).toNat * 3 + 1, none⟩ = some (.int .i64 ((rd_T47 x7_86 0).f1)) := hcc124 1 _ rfl; have hx124_2 : w126.cell? ⟨go124, (0 : Int).toNat * 3 + 2, none⟩ = some (.bool ((rd_T47 x7_86 0).f2)) := hcc124 2 _ rfl; have hf124_0 : w126.frozen? ⟨go124, (0 : Int).toNat * 3, none⟩ = false := hfr124 0; have hf124_1 : w126.frozen? ⟨go124, (0 : Int).toNat * 3 + 1, none⟩ = false := hfr124 1; have hf124_2 : w126.frozen? ⟨go124, (0 : Int).toNat * 3 + 2, none⟩ = false := hfr124 2; clear hcl124 hcc124 hfr124 hM124; (try rw [show ((0 : Int)).toNat = 0 from rfl] at hx124_0); (try simp only [Nat.reduceMul, Nat.zero_mul, Nat.zero_add, Nat.reduceAdd] at hx124_0); (try rw [show ((0 : Int)).toNat = 0 from rfl] at hf124_0); (try simp only [Nat.reduceMul, Nat.zero_mul, Nat.zero_add, Nat.reduceAdd] at hf124_0); (try rw [show ((0 : Int)).toNat = 0 from rfl] at hx124_1); (try simp only [Nat.reduceMul, Nat.zero_mul, Nat.zero_add, Nat.reduceAdd] at hx124_1); (try rw [show ((0 : Int)).toNat = 0 from rfl] at hf124_1); (try simp only [Nat.reduceMul, Nat.zero_mul, Nat.zero_add, Nat.reduceAdd] at hf124_1); (try rw [show ((0 : Int)).toNat = 0 from rfl] at hx124_2); (try simp only [Nat.reduceMul, Nat.zero_mul, Nat.zero_add, Nat.reduceAdd] at hx124_2); (try rw [show ((0 : Int)).toNat = 0 from rfl] at hf124_2); (try simp only [Nat.reduceMul, Nat.zero_mul, Nat.zero_add, Nat.reduceAdd] at hf124_2); replace p124 := eq_true p124; replace q124 := eq_true q124; have HX127 := Aside0.mk (show Kd.R k47 47 w126 w.heap.size (fun _ => True) (.slice (some ⟨go124, 0, none⟩) x7_86.length co125) x7_86 from (by (with_reducible repeat (first | apply Kd.R_alloc | apply Kd.R_drewN | apply Kd.R_drew)); exact HO_7.out)); obtain ⟨ce127, hcl127, hM127, hcc127, hfr127⟩ := Kd.R_elem HX127.out z47 (0 : Int) (by omega) (by have h_ : (0 : Int) < ((x7_86.length : Int) : Int) := of_decide_eq_true (by first | (with_reducible assumption) | assumption); first | exact h_ | (have e_ := (Kd.R_reads' HO_7.out).1; omega) | simpa using h_); obtain rfl := k47_openM hM127; have HP127 := Kd.R_seg HX127.out (0 : Int) (by omega) (by have h_ : (0 : Int) < ((x7_86.length : Int) : Int) := of_decide_eq_true (by first | (with_reducible assumption) | assumption); first | exact h_ | (have e_ := (Kd.R_reads' HO_7.out).1; omega) | simpa using h_) (seg := [.bool (!((rd_T47 x7_86 0).f2))]) (j := 2) hcl127 hcc127 (show 3 ≤ 3 from by decide) (x' := (⟨(rd_T47 x7_86 0).f0, (rd_T47 x7_86 0).f1, !((rd_T47 x7_86 0).f2)⟩ : S47)) (k47_mkM _ _ _ (⟨(rd_T47 x7_86 0).f0, (rd_T47 x7_86 0).f1, !((rd_T47 x7_86 0).f2)⟩ : S47) ) (fun _ hk => hk); have hx127_2 := hcc127 2 _ rfl; (try simp only [show (k47).sz = 3 from rfl, Nat.mul_one, Nat.add_zero] at hx127_2); (try rw [show ((0 : Int)).toNat = 0 from rfl] at hx127_2); (try simp only [Nat.reduceMul, Nat.zero_mul, Nat.zero_add, Nat.reduceAdd] at hx127_2); have hf127_2 := hfr127 2; (try simp only [show (k47).sz = 3 from rfl, Nat.mul_one, Nat.add_zero] at hf127_2); (try rw [show ((0 : Int)).toNat = 0 from rfl] at hf127_2); (try simp only [Nat.reduceMul, Nat.zero_mul, Nat.zero_add, Nat.reduceAdd] at hf127_2); clear hcl127 hcc127 hfr127 hM127) | ((with_reducible refine gate_store (t := 4) (p := 141) rfl ?_); refine store_event (t := 4) (p := 141) (v := ?vo_w128) (w1 := (w126.setCell ⟨go124, 2, none⟩ (.bool (!((rd_T47 x7_86 0).f2))))) ?hg ?ho ?hn ?hr ?_; (case ho => rfl); (case hg => rfl); (case hn => rfl); (case hr => first | (go_simp; done) | (go_simp; rfl)); intro w128 hw; have hg : w126.grownBy w128 (some go124) := (by rw [hw]; exact HP127.2); have hp_ : Kd.R k47 47 w128 w.heap.size (fun _ => True) (.slice (some ⟨go124, 0, none⟩) x7_86.length co125) y260 := (by rw [hw, Ny260.out]; exact HP127.1); clear HP127; have n0_ := Aside0.mk (hp_); have n1_ := Aside0.mk (IsS75.grown (by repeat (first | (with_reducible first | exact HI0.out | apply IsS75.alloc | apply IsS75.drewN | apply IsS75.drew | apply IsS75.set_1) | exact HI0.out)) hg (IsS75.own_ne HI0.out HO_7.out (by decide))); have n2_ := Aside0.mk ((by rw [hw]; exact below_set (HB.out) (Nat.le_trans HL.out GB124.out) : Below w0.heap.size w0 w128)); have n3_ := Aside0.mk (KeepBut.trans (by repeat (first | (with_reducible first | exact HK.out | apply KeepBut.set_ | apply keep_drewN | apply keep_drew | apply keep_alloc) | exact HK.out)) (KeepBut.of_grown hg g) (Kd.R_base2 HO_7.out)); clear HO_7; clear HI0; clear HB; clear HK; have HO_7 := n0_; have HI0 := n1_; have HB := n2_; have HK := n3_; clear n0_ n1_ n2_ n3_; clear hg hw hp_))
                                        go_ret
                                        exact ⟨_, by first | rfl | (simp [errW_none, errW_some] <;> rfl) | (simp [*, errW_none, errW_some] <;> rfl), by (with_reducible repeat (first | apply Kd.R_alloc | apply Kd.R_drewN | apply Kd.R_drew)); exact HO_7.out, by repeat (first | (with_reducible first | exact HI0.out | apply IsS75.alloc | apply IsS75.drewN | apply IsS75.drew | apply IsS75.set_1) | exact HI0.out), by repeat (first | (with_reducible first | exact HB.out | apply below_alloc | apply pw_below_drewN | apply below_drew1 | refine below_set ?_ (IsS75.ge HI0.out)) | exact HB.out), by repeat (first | (with_reducible first | exact HK.out | apply KeepBut.set_ | apply keep_drewN | apply keep_drew | apply keep_alloc) | exact HK.out)⟩
                                      · rw [if_neg c123] at H
                                        exact absurd H (by simp)
                                    · rw [if_neg c122] at H
                                      have c122b0 : (t245 == 2) = false := beq_eq_false_iff_ne.mpr c122
                                      have c122b1 : (t245 != 2) = true := bne_iff_ne.mpr c122
                                      by_cases c129 : t245 = 3
                                      · rw [if_pos c129] at H
                                        have c129b0 : (t245 == 3) = true := beq_iff_eq.mpr c129
                                        have c129b1 : (t245 != 3) = false := bne_eq_false_iff_eq.mpr c129
                                        clear c129
                                        by_cases c130 : 0 < (x7_86.length : Int)
                                        · rw [if_pos c130] at H
                                          have c130b0 : decide (0 < (x7_86.length : Int)) = true := decide_eq_true c130
                                          have c130b1 : decide (0 < x7_86.length) = true := decide_eq_true (by omega)
                                          clear c130
                                          obtain ⟨y262, hy262⟩ : ∃ y_ : List (S47), y_ = (x7_86.set (0 : Int).toNat (⟨(rd_T47 x7_86 0).f0, wrap64 (((rd_T47 x7_86 0).f1) + 1), (rd_T47 x7_86 0).f2⟩ : S47)) := ⟨_, rfl⟩
                                          replace H : (some (y262, t246)) = some (r1, r2) := by first | (rw [hy262]; with_reducible exact H) | (have H2_ := (Option.bind_some _ _).symm.trans H; rw [hy262]; with_reducible exact H2_) | (have H2_ := (Option.bind_some _ _).symm.trans H; with_reducible exact H2_) | with_reducible exact H | (rw [hy262]; exact H) | exact H
                                          have Ny262 := Aside0.mk hy262
                                          clear hy262
                                          simp only [Option.some.injEq, Prod.mk.injEq] at H
                                          obtain ⟨rfl, rfl⟩ := H
                                          obtain ⟨Ao132, co132, eo132⟩ := Kd.R_slice HO_7.out
                                          subst eo132
                                          go_wp2_with (first | ((with_reducible refine gate_callee (f := 55) rfl ?_); refine goesL_ (some 115) rfl rfl Try.func55 (by kernel_rfl) rfl #[.pointer (some ⟨g, 0, none⟩), .int .i64 24] rfl (by (try simp only [List.map_toArray, List.map_cons, List.map_nil]); first | done | rfl | (simp only [List.length_drop, List.length_take]; rfl)) ?_; (with_reducible refine (spec_reader_pick.calls kj86 g s0_0 x1001_86 24 t245 t246 w0 _ ?side1 ?side2 A97.out).mono ?_); (case side1 => repeat (first | (with_reducible first | exact HI0.out | apply IsS75.alloc | apply IsS75.drewN | apply IsS75.drew | apply IsS75.set_1) | exact HI0.out)); (case side2 => repeat (first | (with_reducible first | exact HB.out | apply below_alloc | apply pw_below_drewN | apply below_drew1 | refine below_set ?_ (IsS75.ge HI0.out)) | exact HB.out)); rintro e w133 ⟨rfl, hi, hb, hk⟩; refine ⟨_, rfl, ?_⟩; have n0_ := Aside0.mk (Kd.R_mono (Kd.R_keep (IsS75.apart (show IsS75 w0 _ g s0_0 x1001_86 from by repeat (first | (with_reducible first | exact HI0.out | apply IsS75.alloc | apply IsS75.drewN | apply IsS75.drew | apply IsS75.set_1) | exact HI0.out)) (by (with_reducible repeat (first | apply Kd.R_alloc | apply Kd.R_drewN | apply Kd.R_drew)); exact HO_7.out) (by decide)) hk (fun _ h => h.2)) (fun _ h => h.1)); have n1_ := Aside0.mk (KeepBut.trans (by repeat (first | (with_reducible first | exact HK.out | apply KeepBut.set_ | apply keep_drewN | apply keep_drew | apply keep_alloc) | exact HK.out)) hk (.inl rfl)); have n2_ := Aside0.mk (hb); have n3_ := Aside0.mk (hi); clear HO_7; clear HK; clear HB; clear HI0; have HO_7 := n0_; have HK := n1_; have HB := n2_; have HI0 := n3_; clear n0_ n1_ n2_ n3_; (try clear hb); (try clear hb2); (try clear hk); (try clear hi); have p261 : 0 ≤ (0 : Int) := (by omega); have q261 : 0 < (x7_86.length : Int) := of_decide_eq_true (by first | (with_reducible assumption) | assumption); obtain ⟨ad261, e261, hx261_0, hx261_1, hx261_2⟩ := at_T47 (Kd.R_reads' HO_7.out).2.2 0 p261 q261; cases e261; have qi261 : (0 < x7_86.length) = True := eq_true (by omega); (try rw [show ((0 : Int)).toNat = 0 from rfl] at hx261_0); (try rw [show 0 * 3 = 0 from rfl] at hx261_0); (try rw [Addr.add_zero'] at hx261_0); (try rw [show ((0 : Int)).toNat = 0 from rfl] at hx261_1); (try rw [show 0 * 3 = 0 from rfl] at hx261_1); (try rw [Addr.add_zero'] at hx261_1); (try rw [show ((0 : Int)).toNat = 0 from rfl] at hx261_2); (try rw [show 0 * 3 = 0 from rfl] at hx261_2); (try rw [Addr.add_zero'] at hx261_2); replace p261 := eq_true p261; replace q261 := eq_true q261; have p131 : 0 ≤ (0 : Int) := (by omega); have q131 : (0 : Int) < ((x7_86.length : Int) : Int) := of_decide_eq_true (by first | (with_reducible assumption) | assumption); have qi131 : (0 < x7_86.length) = True := eq_true (by omega); obtain ⟨go131, co131, eo131, gb131, gl131, cl131, HG131⟩ := Kd.R_form HO_7.out (by omega); (first | cases eo131 | (injection eo131 with ea_ en_ ec_; (first | subst ea_ | (injection ea_ with ea_; subst ea_)); subst ec_; clear en_)); have GB131 := Aside0.mk gb131; have GG131 := Aside0.mk HG131; clear gb131 gl131 HG131; (first | simp only [add_plain] at hx261_0 | skip); (first | simp only [add_plain] at hx261_1 | skip); (first | simp only [add_plain] at hx261_2 | skip); obtain ⟨ce131, hcl131, hM131, hcc131, hfr131⟩ := Kd.R_elem HO_7.out z47 (0 : Int) p131 q131; obtain rfl := k47_openM hM131; have hx131_0 : w133.cell? ⟨go131, (0 : Int).toNat * 3, none⟩ = some (.int .i64 ((rd_T47 x7_86 0).f0)) := hcc131 0 _ rfl; have hx131_1 : w133.cell? ⟨go131, (0 : Int).toNat * 3 + 1, none⟩ = some (.int .i64 ((rd_T47 x7_86 0).f1)) := hcc131 1 _ rfl; have hx131_2 : w133.cell? ⟨go131, (0 : Int).toNat * 3 + 2, none⟩ = some (.bool ((rd_T47 x7_86 0).f2)) := hcc131 2 _ rfl; have hf131_0 : w133.frozen? ⟨go131, (0 : Int).toNat * 3, none⟩ = false := hfr131 0; have hf131_1 : w133.frozen? ⟨go131, (0 : Int).toNat * 3 + 1, none⟩ = false := hfr131 1; have hf131_2 : w133.frozen? ⟨go131, (0 : Int).toNat * 3 + 2, none⟩ = false := hfr131 2; clear hcl131 hcc131 hfr131 hM131; (try rw [show ((0 : Int)).toNat = 0 from rfl] at hx131_0); (try simp only [Nat.reduceMul, Nat.zero_mul, Nat.zero_add, Nat.reduceAdd] at hx131_0); (try rw [show ((0 : Int)).toNat = 0 from rfl] at hf131_0); (try simp only [Nat.reduceMul, Nat.zero_mul, Nat.zero_add, Nat.reduceAdd] at hf131_0); (try rw [show ((0 : Int)).toNat = 0 from rfl] at hx131_1); (try simp only [Nat.reduceMul, Nat.zero_mul, Nat.zero_add, Nat.reduceAdd] at hx131_1); (try rw [show ((0 : Int)).toNat = 0 from rfl] at hf131_1); (try simp only [Nat.reduceMul, Nat.zero_mul, Nat.zero_add, Nat.reduceAdd] at hf131_1); (try rw [show ((0 : Int)).toNat = 0 from rfl] at hx131_2); (try simp only [Nat.reduceMul, Nat.zero_mul, Nat.zero_add, Nat.reduceAdd] at hx131_2); (try rw [show ((0 : Int)).toNat = 0 from rfl] at hf131_2); (try simp only [Nat.reduceMul, Nat.zero_mul, Nat.zero_add, Nat.reduceAdd] at hf131_2); replace p131 := eq_true p131; replace q131 := eq_true q131; have HX134 := Aside0.mk (show Kd.R k47 47 w133 w.heap.size (fun _ => True) (.slice (some ⟨go131, 0, none⟩) x7_86.length co132) x7_86 from (by (with_reducible repeat (first | apply Kd.R_alloc | apply Kd.R_drewN | apply Kd.R_drew)); exact HO_7.out)); obtain ⟨ce134, hcl134, hM134, hcc134, hfr134⟩ := Kd.R_elem HX134.out z47 (0 : Int) (by omega) (by have h_ : (0 : Int) < ((x7_86.length : Int) : Int) := of_decide_eq_true (by first | (with_reducible assumption) | assumption); first | exact h_ | (have e_ := (Kd.R_reads' HO_7.out).1; omega) | simpa using h_); obtain rfl := k47_openM hM134; have HP134 := Kd.R_seg HX134.out (0 : Int) (by omega) (by have h_ : (0 : Int) < ((x7_86.length : Int) : Int) := of_decide_eq_true (by first | (with_reducible assumption) | assumption); first | exact h_ | (have e_ := (Kd.R_reads' HO_7.out).1; omega) | simpa using h_) (seg := [.int .i64 (wrap64 (((rd_T47 x7_86 0).f1) + 1))]) (j := 1) hcl134 hcc134 (show 2 ≤ 3 from by decide) (x' := (⟨(rd_T47 x7_86 0).f0, wrap64 (((rd_T47 x7_86 0).f1) + 1), (rd_T47 x7_86 0).f2⟩ : S47)) (k47_mkM _ _ _ (⟨(rd_T47 x7_86 0).f0, wrap64 (((rd_T47 x7_86 0).f1) + 1), (rd_T47 x7_86 0).f2⟩ : S47) ) (fun _ hk => hk); have hx134_1 := hcc134 1 _ rfl; (try simp only [show (k47).sz = 3 from rfl, Nat.mul_one, Nat.add_zero] at hx134_1); (try rw [show ((0 : Int)).toNat = 0 from rfl] at hx134_1); (try simp only [Nat.reduceMul, Nat.zero_mul, Nat.zero_add, Nat.reduceAdd] at hx134_1); have hf134_1 := hfr134 1; (try simp only [show (k47).sz = 3 from rfl, Nat.mul_one, Nat.add_zero] at hf134_1); (try rw [show ((0 : Int)).toNat = 0 from rfl] at hf134_1); (try simp only [Nat.reduceMul, Nat.zero_mul, Nat.zero_add, Nat.reduceAdd] at hf134_1); clear hcl134 hcc134 hfr134 hM134) | ((with_reducible refine gate_store (t := 3) (p := 151) rfl ?_); refine store_event (t := 3) (p := 151) (v := ?vo_w135) (w1 := (w133.setCell ⟨go131, 1, none⟩ (.int .i64 (wrap64 (((rd_T47 x7_86 0).f1) + 1))))) ?hg ?ho ?hn ?hr ?_; (case ho => rfl); (case hg => rfl); (case hn => rfl); (case hr => first | (go_simp; done) | (go_simp; rfl)); intro w135 hw; have hg : w133.grownBy w135 (some go131) := (by rw [hw]; exact HP134.2); have hp_ : Kd.R k47 47 w135 w.heap.size (fun _ => True) (.slice (some ⟨go131, 0, none⟩) x7_86.length co132) y262 := (by rw [hw, Ny262.out]; exact HP134.1); clear HP134; have n0_ := Aside0.mk (hp_); have n1_ := Aside0.mk (IsS75.grown (by repeat (first | (with_reducible first | exact HI0.out | apply IsS75.alloc | apply IsS75.drewN | apply IsS75.drew | apply IsS75.set_1) | exact HI0.out)) hg (IsS75.own_ne HI0.out HO_7.out (by decide))); have n2_ := Aside0.mk ((by rw [hw]; exact below_set (HB.out) (Nat.le_trans HL.out GB131.out) : Below w0.heap.size w0 w135)); have n3_ := Aside0.mk (KeepBut.trans (by repeat (first | (with_reducible first | exact HK.out | apply KeepBut.set_ | apply keep_drewN | apply keep_drew | apply keep_alloc) | exact HK.out)) (KeepBut.of_grown hg g) (Kd.R_base2 HO_7.out)); clear HO_7; clear HI0; clear HB; clear HK; have HO_7 := n0_; have HI0 := n1_; have HB := n2_; have HK := n3_; clear n0_ n1_ n2_ n3_; clear hg hw hp_))
                                          go_ret
                                          exact ⟨_, by first | rfl | (simp [errW_none, errW_some] <;> rfl) | (simp [*, errW_none, errW_some] <;> rfl), by (with_reducible repeat (first | apply Kd.R_alloc | apply Kd.R_drewN | apply Kd.R_drew)); exact HO_7.out, by repeat (first | (with_reducible first | exact HI0.out | apply IsS75.alloc | apply IsS75.drewN | apply IsS75.drew | apply IsS75.set_1) | exact HI0.out), by repeat (first | (with_reducible first | exact HB.out | apply below_alloc | apply pw_below_drewN | apply below_drew1 | refine below_set ?_ (IsS75.ge HI0.out)) | exact HB.out), by repeat (first | (with_reducible first | exact HK.out | apply KeepBut.set_ | apply keep_drewN | apply keep_drew | apply keep_alloc) | exact HK.out)⟩
                                        · rw [if_neg c130] at H
                                          exact absurd H (by simp)
                                      · rw [if_neg c129] at H
                                        have c129b0 : (t245 == 3) = false := beq_eq_false_iff_ne.mpr c129
                                        have c129b1 : (t245 != 3) = true := bne_iff_ne.mpr c129
                                        simp only [Option.some.injEq, Prod.mk.injEq] at H
                                        obtain ⟨rfl, rfl⟩ := H
                                        obtain ⟨Ao136, co136, eo136⟩ := Kd.R_slice HO_7.out
                                        subst eo136
                                        go_wp2_with (first | ((with_reducible refine gate_callee (f := 55) rfl ?_); refine goesL_ (some 115) rfl rfl Try.func55 (by kernel_rfl) rfl #[.pointer (some ⟨g, 0, none⟩), .int .i64 24] rfl (by (try simp only [List.map_toArray, List.map_cons, List.map_nil]); first | done | rfl | (simp only [List.length_drop, List.length_take]; rfl)) ?_; (with_reducible refine (spec_reader_pick.calls kj86 g s0_0 x1001_86 24 t245 t246 w0 _ ?side1 ?side2 A97.out).mono ?_); (case side1 => repeat (first | (with_reducible first | exact HI0.out | apply IsS75.alloc | apply IsS75.drewN | apply IsS75.drew | apply IsS75.set_1) | exact HI0.out)); (case side2 => repeat (first | (with_reducible first | exact HB.out | apply below_alloc | apply pw_below_drewN | apply below_drew1 | refine below_set ?_ (IsS75.ge HI0.out)) | exact HB.out)); rintro e w137 ⟨rfl, hi, hb, hk⟩; refine ⟨_, rfl, ?_⟩; have n0_ := Aside0.mk (Kd.R_mono (Kd.R_keep (IsS75.apart (show IsS75 w0 _ g s0_0 x1001_86 from by repeat (first | (with_reducible first | exact HI0.out | apply IsS75.alloc | apply IsS75.drewN | apply IsS75.drew | apply IsS75.set_1) | exact HI0.out)) (by (with_reducible repeat (first | apply Kd.R_alloc | apply Kd.R_drewN | apply Kd.R_drew)); exact HO_7.out) (by decide)) hk (fun _ h => h.2)) (fun _ h => h.1)); have n1_ := Aside0.mk (KeepBut.trans (by repeat (first | (with_reducible first | exact HK.out | apply KeepBut.set_ | apply keep_drewN | apply keep_drew | apply keep_alloc) | exact HK.out)) hk (.inl rfl)); have n2_ := Aside0.mk (hb); have n3_ := Aside0.mk (hi); clear HO_7; clear HK; clear HB; clear HI0; have HO_7 := n0_; have HK := n1_; have HB := n2_; have HI0 := n3_; clear n0_ n1_ n2_ n3_; (try clear hb); (try clear hb2); (try clear hk); (try clear hi)))
                                        go_ret
                                        exact ⟨_, by first | rfl | (simp [errW_none, errW_some] <;> rfl) | (simp [*, errW_none, errW_some] <;> rfl), by (with_reducible repeat (first | apply Kd.R_alloc | apply Kd.R_drewN | apply Kd.R_drew)); exact HO_7.out, by repeat (first | (with_reducible first | exact HI0.out | apply IsS75.alloc | apply IsS75.drewN | apply IsS75.drew | apply IsS75.set_1) | exact HI0.out), by repeat (first | (with_reducible first | exact HB.out | apply below_alloc | apply pw_below_drewN | apply below_drew1 | refine below_set ?_ (IsS75.ge HI0.out)) | exact HB.out), by repeat (first | (with_reducible first | exact HK.out | apply KeepBut.set_ | apply keep_drewN | apply keep_drew | apply keep_alloc) | exact HK.out)⟩
                              · rw [if_neg c96] at H
                                have c96b0 : decide (0 < (x7_86.length : Int)) = false := decide_eq_false c96
                                have c96b1 : decide (0 < x7_86.length) = false := decide_eq_false (by omega)
                                clear c96
                                simp only [Option.some.injEq, Prod.mk.injEq] at H
                                obtain ⟨rfl, rfl⟩ := H
                                obtain ⟨Ao138, co138, eo138⟩ := Kd.R_slice HO_7.out
                                subst eo138
                                go_wp2
                                go_ret
                                exact ⟨_, by first | rfl | (simp [errW_none, errW_some] <;> rfl) | (simp [*, errW_none, errW_some] <;> rfl), by (with_reducible repeat (first | apply Kd.R_alloc | apply Kd.R_drewN | apply Kd.R_drew)); exact HO_7.out, by repeat (first | (with_reducible first | exact HI0.out | apply IsS75.alloc | apply IsS75.drewN | apply IsS75.drew | apply IsS75.set_1) | exact HI0.out), by repeat (first | (with_reducible first | exact HB.out | apply below_alloc | apply pw_below_drewN | apply below_drew1 | refine below_set ?_ (IsS75.ge HI0.out)) | exact HB.out), by repeat (first | (with_reducible first | exact HK.out | apply KeepBut.set_ | apply keep_drewN | apply keep_drew | apply keep_alloc) | exact HK.out)⟩
  · rw [if_neg c6] at H
    exact absurd H (by simp)

end Go.Proofs.Ytghnljpimkchhaa.HFnHolesOf
