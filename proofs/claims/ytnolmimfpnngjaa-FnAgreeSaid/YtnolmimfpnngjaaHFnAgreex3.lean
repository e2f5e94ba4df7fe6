-- Written by wip/hp.py, a program of this session.
import Derived.Test.YtnolmimfpnngjaaHFnAgreex0
import Derived.Test.YtnolmimfpnngjaaHFnAgreex2
namespace Go.Proofs.Ytnolmimfpnngjaa.HFnAgree
open Go.RowKit Go.Proofs.YtnolmimfpnngjaaW.PrintWords Go.Proofs.YtnolmimfpnngjaaW.PrintLast Go.Proofs.YtnolmimfpnngjaaW.PrintMore
attribute [local go_sem] max2_int min2_int max_two min_two max_three min_three max_four min_four   -- for this text's walks alone
set_option linter.unusedVariables false
set_option linter.unusedSimpArgs false

/-! ### spec_anOffer: function 56 -/
def spec_anOffer.l0 : Nat → List Int → Int → Int → Int → Int → List Int → Option (Int × Int × Int × List Int × Int)
  | 0, _, _, _, _, _, _ => none
  | k + 1, x1000, x1001, x121000, x121001, x121002, x121003 => if (x121003.length : Int) < 5 then ((spec_reader_pick.f k x1000 x1001 5).bind fun bt123 => ((spec_power.f k bt123.1).bind fun t125 => ((spec_reader_pick.f k x1000 bt123.2 5).bind fun bt126 => ((spec_power.f k bt126.1).bind fun t128 => ((spec_reader_pick.f k x1000 bt126.2 5).bind fun bt129 => ((spec_power.f k bt129.1).bind fun t131 => ((spec_reader_one.f k x1000 bt129.2 (([0, 0, t125, Go.bits .or .i64 t128 t131] : List Int))).bind fun bt135 => (if x121003.length < 17592186044416 then (spec_anOffer.l0 k x1000 bt135.2 x121000 x121001 x121002 (x121003 ++ [bt135.1])) else (none))))))))) else ((spec_reader_pick.f k x1000 x1001 30).bind fun bt140 => (if bt140.1 = 0 then ((spec_reader_one.f k x1000 bt140.2 (([wrap64 (x121000 - 1), 21] : List Int))).bind fun bt145 => (some (x121000, bt145.1, x121002, x121003, bt145.2))) else (if bt140.1 = 1 then (if 1 ≤ (x121003.length : Int) then (some (x121000, x121001, x121002, (x121003.drop (1 : Int).toNat), bt140.2)) else (none)) else (if bt140.1 = 2 then (some (x121000, x121001, 32, x121003, bt140.2)) else (some (x121000, x121001, x121002, x121003, bt140.2))))))
def spec_anOffer.f (k : Nat) (s0_0 : List Int) (s0_1 : Int) : Option (Int × Int × Int × List Int × Int) := (spec_reader_pick.f k s0_0 s0_1 6).bind fun bt114 => ((spec_reader_pick.f k s0_0 bt114.2 32).bind fun bt116 => ((spec_reader_pick.f k s0_0 bt116.2 32).bind fun bt118 => ((spec_reader_pick.f k s0_0 bt118.2 8).bind fun bt121 => (spec_anOffer.l0 k s0_0 bt121.2 bt114.1 (wrap64 (bt114.1 + bt121.1)) (Go.bits .or .i64 bt116.1 bt118.1) ([] : List Int)))))
theorem spec_anOffer.mono_l : ∀ k, (∀ y0 y1 y2 y3 y4 y5, LeO (spec_anOffer.l0 k y0 y1 y2 y3 y4 y5) (spec_anOffer.l0 (k + 1) y0 y1 y2 y3 y4 y5))
  | 0 => fun _ _ _ _ _ _ r h => by simp [spec_anOffer.l0] at h
  | k + 1 => by
    have ih0 := spec_anOffer.mono_l k
    · intro y0 y1 y2 y3 y4 y5
      unfold spec_anOffer.l0
      repeat' first
      | (with_reducible exact ih0 _ _ _ _ _ _)
      | (with_reducible exact spec_power.mono _ _)
      | (with_reducible exact spec_reader_one.mono _ _ _ _)
      | (with_reducible exact spec_reader_pick.mono _ _ _ _)
      | (with_reducible exact LeO.refl _)
      | (with_reducible exact LeO.none _)
      | (with_reducible refine LeO.ite ?_ ?_)
      | (with_reducible refine LeO.bind ?_ (fun _ => ?_))
      | exact ih0 _ _ _ _ _ _
      | exact spec_power.mono _ _
      | exact spec_reader_one.mono _ _ _ _
      | exact spec_reader_pick.mono _ _ _ _
      | exact LeO.none _
      | refine LeO.ite ?_ ?_
      | refine LeO.bind ?_ (fun _ => ?_)
theorem spec_anOffer.mono : ∀ a0 a1 k, LeO (spec_anOffer.f k a0 a1) (spec_anOffer.f (k + 1) a0 a1) := by
  intro a0 a1 k
  have ih0 := spec_anOffer.mono_l k
  unfold spec_anOffer.f
  repeat' first
      | (with_reducible exact ih0 _ _ _ _ _ _)
      | (with_reducible exact spec_power.mono _ _)
      | (with_reducible exact spec_reader_one.mono _ _ _ _)
      | (with_reducible exact spec_reader_pick.mono _ _ _ _)
      | (with_reducible exact LeO.refl _)
      | (with_reducible exact LeO.none _)
      | (with_reducible refine LeO.ite ?_ ?_)
      | (with_reducible refine LeO.bind ?_ (fun _ => ?_))
      | exact ih0 _ _ _ _ _ _
      | exact spec_power.mono _ _
      | exact spec_reader_one.mono _ _ _ _
      | exact spec_reader_pick.mono _ _ _ _
      | exact LeO.none _
      | refine LeO.ite ?_ ?_
      | refine LeO.bind ?_ (fun _ => ?_)
def spec_anOffer.T4 : Bool × List (List Nat × List Nat) := (true, [([], []), ([0], [0]), ([], []), ([], []), ([3], [3]), ([4, 4], [4]), ([], []), ([6, 5], [6]), ([7, 7], [7]), ([], []), ([9, 8], [9]), ([10, 10], [10]), ([8, 11], [8, 11]), ([5, 12], [5, 12]), ([2, 13, 11], [2, 13]), ([14], [14]), ([1, 15, 14], [1, 15]), ([0, 1, 2, 3, 4, 5, 6, 7, 8, 9, 10, 11, 12, 13, 14, 15, 16], []), ([17, 16, 16, 0, 1, 2, 3, 4, 5, 6, 7, 8, 9, 10, 11, 12, 13, 14, 15, 16], [16, 17])])
def spec_anOffer.B4 : List Nat := [0, 1, 0, 0, 8, 24, 0, 120, 248, 0, 1016, 2040, 4088, 8184, 16380, 32764, 65535, 131071, 262143]
theorem spec_anOffer.tab4 : rtab .any (opsOf Try.f56 4) = spec_anOffer.T4 := by kernel_rfl
theorem spec_anOffer.bits4 : waitsOk spec_anOffer.T4.2 spec_anOffer.B4 = true := by kernel_rfl
set_option maxHeartbeats 8000000 in
set_option maxRecDepth 100000 in
theorem spec_anOffer.calls (k : Nat) (g : Nat) (s0_0 : List Int) (s0_1 : Int) (r1 : Int) (r2 : Int) (r3 : Int) (r4 : List Int) (r5 : Int) (w0 w : World) (hI : IsS82 w0 w g s0_0 s0_1) (hB : Below w0.heap.size w0 w) (h : spec_anOffer.f k s0_0 s0_1 = some (r1, r2, r3, r4, r5)) :
    Calls Try.prog 56 #[.pointer (some ⟨g, 0, none⟩)] w fun e w' => ∃ v3_ : Value, e = .returned (.agg #[.int .i64 r1, .int .i64 r2, .int .i64 r3, v3_]) ∧ Kd.Q (Kd.int .i64) 3 w' w.heap.size (fun _ => True) v3_ r4 ∧ IsS82 w0 w' g s0_0 r5 ∧ Below w0.heap.size w0 w' ∧ KeepBut w w' g none := by
  have hu40 := Try.underlying40
  have HI0 := Aside0.mk hI
  have HK := Aside0.mk (KeepBut.refl w g none)
  have HL := Aside0.mk hB.size
  clear hI
  have HW0 := Aside0.mk hB.size
  have HB := Aside0.mk hB
  clear hB
  have H : ((spec_reader_pick.f k s0_0 s0_1 6).bind fun bt114 => ((spec_reader_pick.f k s0_0 bt114.2 32).bind fun bt116 => ((spec_reader_pick.f k s0_0 bt116.2 32).bind fun bt118 => ((spec_reader_pick.f k s0_0 bt118.2 8).bind fun bt121 => (spec_anOffer.l0 k s0_0 bt121.2 bt114.1 (wrap64 (bt114.1 + bt121.1)) (Go.bits .or .i64 bt116.1 bt118.1) ([] : List Int)))))) = some (r1, r2, r3, r4, r5) := h
  clear h
  replace H := Option.bind_eq_some_iff.mp H
  obtain ⟨⟨t114, t115⟩, A20, H⟩ := H
  replace H : ((spec_reader_pick.f k s0_0 t115 32).bind fun bt116 => ((spec_reader_pick.f k s0_0 bt116.2 32).bind fun bt118 => ((spec_reader_pick.f k s0_0 bt118.2 8).bind fun bt121 => (spec_anOffer.l0 k s0_0 bt121.2 t114 (wrap64 (t114 + bt121.1)) (Go.bits .or .i64 bt116.1 bt118.1) ([] : List Int))))) = some (r1, r2, r3, r4, r5) := H
  have A2 := Aside0.mk A20
  clear A20
  replace H := Option.bind_eq_some_iff.mp H
  obtain ⟨⟨t116, t117⟩, A30, H⟩ := H
  replace H : ((spec_reader_pick.f k s0_0 t117 32).bind fun bt118 => ((spec_reader_pick.f k s0_0 bt118.2 8).bind fun bt121 => (spec_anOffer.l0 k s0_0 bt121.2 t114 (wrap64 (t114 + bt121.1)) (Go.bits .or .i64 t116 bt118.1) ([] : List Int)))) = some (r1, r2, r3, r4, r5) := H
  have A3 := Aside0.mk A30
  clear A30
  replace H := Option.bind_eq_some_iff.mp H
  obtain ⟨⟨t118, t119⟩, A40, H⟩ := H
  replace H : ((spec_reader_pick.f k s0_0 t119 8).bind fun bt121 => (spec_anOffer.l0 k s0_0 bt121.2 t114 (wrap64 (t114 + bt121.1)) (Go.bits .or .i64 t116 t118) ([] : List Int))) = some (r1, r2, r3, r4, r5) := H
  have A4 := Aside0.mk A40
  clear A40
  replace H := Option.bind_eq_some_iff.mp H
  obtain ⟨⟨t121, t122⟩, A50, H⟩ := H
  replace H : (spec_anOffer.l0 k s0_0 t122 t114 (wrap64 (t114 + t121)) (Go.bits .or .i64 t116 t118) ([] : List Int)) = some (r1, r2, r3, r4, r5) := H
  have A5 := Aside0.mk A50
  clear A50
  have H' := Aside0.mk H
  clear H
  go_enter Try.func56, Try.ntmps56
  try go_wp2_with (first | ((with_reducible refine gate_dst (N := 2) rfl ?_); refine box_event ?hg (N := 2) ?hd (cs := #[.int .i64 0, .int .i64 0, .int .i64 0, .slice none 0 0]) (t := 40) ?hr ?_; (case hd => rfl); (case hg => rfl); (case hr => first | (go_simp; done) | (go_simp; rfl)); intro gb113 hg w6 hbox hb; have n0_ := Aside0.mk (IsS82.below (by repeat (first | (with_reducible first | exact HI0.out | apply IsS82.alloc | apply IsS82.drewN | apply IsS82.drew | apply IsS82.set_1) | exact HI0.out)) hb); have n1_ := Aside0.mk (KeepBut.trans (by repeat (first | (with_reducible first | exact HK.out | apply KeepBut.set_ | apply keep_drewN | apply keep_drew | apply keep_alloc) | exact HK.out)) (KeepBut.of_below hb g none) (.inl rfl)); have n2_ := Aside0.mk (below_step (by repeat (first | (with_reducible first | exact HB.out | apply below_alloc | apply pw_below_drewN | apply below_drew1 | refine below_set ?_ (IsS82.ge HI0.out)) | exact HB.out)) hb); have n3_ := Aside0.mk (hbox); have n4_ := Aside0.mk ((by rw [hg]; exact (keep_size (w := w) (g := g) (row := none) (by repeat (first | (with_reducible first | exact HK.out | apply KeepBut.set_ | apply keep_drewN | apply keep_drew | apply keep_alloc) | exact HK.out))) : w.heap.size ≤ gb113)); have n5_ := Aside0.mk ((Nat.le_trans HW0.out (by rw [hg]; exact (keep_size (w := w) (g := g) (row := none) (by repeat (first | (with_reducible first | exact HK.out | apply KeepBut.set_ | apply keep_drewN | apply keep_drew | apply keep_alloc) | exact HK.out))) : w.heap.size ≤ gb113) : w0.heap.size ≤ gb113)); have n6_ := Aside0.mk ((by rw [hg]; exact Nat.ne_of_lt (IsS82.lt (show IsS82 w0 _ g s0_0 s0_1 from by repeat (first | (with_reducible first | exact HI0.out | apply IsS82.alloc | apply IsS82.drewN | apply IsS82.drew | apply IsS82.set_1) | exact HI0.out))) : g ≠ gb113)); have n7_ := Aside0.mk ((by rw [hg]; exact Nat.ne_of_gt (IsS82.lt (show IsS82 w0 _ g s0_0 s0_1 from by repeat (first | (with_reducible first | exact HI0.out | apply IsS82.alloc | apply IsS82.drewN | apply IsS82.drew | apply IsS82.set_1) | exact HI0.out))) : gb113 ≠ g)); clear HI0; clear HK; clear HB; have HI0 := n0_; have HK := n1_; have HB := n2_; have BK113 := n3_; have GW113 := n4_; have GE113 := n5_; have NB0_113 := n6_; have NB113_0 := n7_; clear n0_ n1_ n2_ n3_ n4_ n5_ n6_ n7_; clear hb hbox hg) | ((with_reducible refine gate_callee (f := 63) rfl ?_); refine goesL_ (some 5) rfl rfl Try.func63 (by kernel_rfl) rfl #[.pointer (some ⟨g, 0, none⟩), .int .i64 6] rfl (by (try simp only [List.map_toArray, List.map_cons, List.map_nil]); first | done | rfl | (simp only [List.length_drop, List.length_take]; rfl)) ?_; (with_reducible refine (spec_reader_pick.calls k g s0_0 s0_1 6 t114 t115 w0 _ ?side1 ?side2 A2.out).mono ?_); (case side1 => repeat (first | (with_reducible first | exact HI0.out | apply IsS82.alloc | apply IsS82.drewN | apply IsS82.drew | apply IsS82.set_1 | refine IsS82.far ?_ NB0_113.out _) | exact HI0.out)); (case side2 => repeat (first | (with_reducible first | exact HB.out | apply below_alloc | apply pw_below_drewN | apply below_drew1 | refine below_set ?_ (IsS82.ge HI0.out) | refine below_set ?_ GE113.out) | exact HB.out)); rintro e w7 ⟨rfl, hi, hb, hk⟩; refine ⟨_, rfl, ?_⟩; have n0_ := Aside0.mk (KeepBut.blk hk (g' := gb113) (o := .cells #[.int .i64 0, .int .i64 0, .int .i64 0, .slice none 0 0] 40 (0, 0)) (by (with_reducible repeat (first | refine blk_drewN ?_ _ | refine blk_drew ?_ | refine blk_alloc ?_ _)); exact BK113.out) NB113_0.out (by simp)); have n1_ := Aside0.mk (KeepBut.trans (by repeat (first | (with_reducible first | exact HK.out | apply KeepBut.set_ | apply keep_drewN | apply keep_drew | apply keep_alloc | refine keep_far ?_ GW113.out _) | exact HK.out)) hk (.inl rfl)); have n2_ := Aside0.mk (hb); have n3_ := Aside0.mk (hi); clear BK113; clear HK; clear HB; clear HI0; have BK113 := n0_; have HK := n1_; have HB := n2_; have HI0 := n3_; clear n0_ n1_ n2_ n3_; (try clear hb); (try clear hb2); (try clear hk); (try clear hi)) | ((with_reducible refine gate_callee (f := 63) rfl ?_); refine goesL_ (some 7) rfl rfl Try.func63 (by kernel_rfl) rfl #[.pointer (some ⟨g, 0, none⟩), .int .i64 32] rfl (by (try simp only [List.map_toArray, List.map_cons, List.map_nil]); first | done | rfl | (simp only [List.length_drop, List.length_take]; rfl)) ?_; (with_reducible refine (spec_reader_pick.calls k g s0_0 t115 32 t116 t117 w0 _ ?side1 ?side2 A3.out).mono ?_); (case side1 => repeat (first | (with_reducible first | exact HI0.out | apply IsS82.alloc | apply IsS82.drewN | apply IsS82.drew | apply IsS82.set_1 | refine IsS82.far ?_ NB0_113.out _) | exact HI0.out)); (case side2 => repeat (first | (with_reducible first | exact HB.out | apply below_alloc | apply pw_below_drewN | apply below_drew1 | refine below_set ?_ (IsS82.ge HI0.out) | refine below_set ?_ GE113.out) | exact HB.out)); rintro e w8 ⟨rfl, hi, hb, hk⟩; refine ⟨_, rfl, ?_⟩; have n0_ := Aside0.mk (KeepBut.blk hk (g' := gb113) (o := .cells #[.int .i64 0, .int .i64 0, .int .i64 0, .slice none 0 0] 40 (0, 0)) (by (with_reducible repeat (first | refine blk_drewN ?_ _ | refine blk_drew ?_ | refine blk_alloc ?_ _)); exact BK113.out) NB113_0.out (by simp)); have n1_ := Aside0.mk (KeepBut.trans (by repeat (first | (with_reducible first | exact HK.out | apply KeepBut.set_ | apply keep_drewN | apply keep_drew | apply keep_alloc | refine keep_far ?_ GW113.out _) | exact HK.out)) hk (.inl rfl)); have n2_ := Aside0.mk (hb); have n3_ := Aside0.mk (hi); clear BK113; clear HK; clear HB; clear HI0; have BK113 := n0_; have HK := n1_; have HB := n2_; have HI0 := n3_; clear n0_ n1_ n2_ n3_; (try clear hb); (try clear hb2); (try clear hk); (try clear hi)) | ((with_reducible refine gate_callee (f := 63) rfl ?_); refine goesL_ (some 9) rfl rfl Try.func63 (by kernel_rfl) rfl #[.pointer (some ⟨g, 0, none⟩), .int .i64 32] rfl (by (try simp only [List.map_toArray, List.map_cons, List.map_nil]); first | done | rfl | (simp only [List.length_drop, List.length_take]; rfl)) ?_; (with_reducible refine (spec_reader_pick.calls k g s0_0 t117 32 t118 t119 w0 _ ?side1 ?side2 A4.out).mono ?_); (case side1 => repeat (first | (with_reducible first | exact HI0.out | apply IsS82.alloc | apply IsS82.drewN | apply IsS82.drew | apply IsS82.set_1 | refine IsS82.far ?_ NB0_113.out _) | exact HI0.out)); (case side2 => repeat (first | (with_reducible first | exact HB.out | apply below_alloc | apply pw_below_drewN | apply below_drew1 | refine below_set ?_ (IsS82.ge HI0.out) | refine below_set ?_ GE113.out) | exact HB.out)); rintro e w9 ⟨rfl, hi, hb, hk⟩; refine ⟨_, rfl, ?_⟩; have n0_ := Aside0.mk (KeepBut.blk hk (g' := gb113) (o := .cells #[.int .i64 0, .int .i64 0, .int .i64 0, .slice none 0 0] 40 (0, 0)) (by (with_reducible repeat (first | refine blk_drewN ?_ _ | refine blk_drew ?_ | refine blk_alloc ?_ _)); exact BK113.out) NB113_0.out (by simp)); have n1_ := Aside0.mk (KeepBut.trans (by repeat (first | (with_reducible first | exact HK.out | apply KeepBut.set_ | apply keep_drewN | apply keep_drew | apply keep_alloc | refine keep_far ?_ GW113.out _) | exact HK.out)) hk (.inl rfl)); have n2_ := Aside0.mk (hb); have n3_ := Aside0.mk (hi); clear BK113; clear HK; clear HB; clear HI0; have BK113 := n0_; have HK := n1_; have HB := n2_; have HI0 := n3_; clear n0_ n1_ n2_ n3_; (try clear hb); (try clear hb2); (try clear hk); (try clear hi)) | ((with_reducible refine gate_dst (N := 3) rfl ?_); refine box_event ?hg (N := 3) ?hd (cs := #[.int .i64 0, .int .i64 0, .int .i64 0, .slice none 0 0]) (t := 40) ?hr ?_; (case hd => rfl); (case hg => rfl); (case hr => first | (go_simp; done) | (go_simp; rfl)); intro gb120 hg w10 hbox hb; have n0_ := Aside0.mk (IsS82.below (by repeat (first | (with_reducible first | exact HI0.out | apply IsS82.alloc | apply IsS82.drewN | apply IsS82.drew | apply IsS82.set_1 | refine IsS82.far ?_ NB0_113.out _) | exact HI0.out)) hb); have n1_ := Aside0.mk (blk_below (g := gb113) (o := .cells #[.int .i64 0, .int .i64 0, .int .i64 0, .slice none 0 0] 40 (0, 0)) (by (with_reducible repeat (first | refine blk_drewN ?_ _ | refine blk_drew ?_ | refine blk_alloc ?_ _)); exact BK113.out) hb); have n2_ := Aside0.mk (KeepBut.trans (by repeat (first | (with_reducible first | exact HK.out | apply KeepBut.set_ | apply keep_drewN | apply keep_drew | apply keep_alloc | refine keep_far ?_ GW113.out _) | exact HK.out)) (KeepBut.of_below hb g none) (.inl rfl)); have n3_ := Aside0.mk (below_step (by repeat (first | (with_reducible first | exact HB.out | apply below_alloc | apply pw_below_drewN | apply below_drew1 | refine below_set ?_ (IsS82.ge HI0.out) | refine below_set ?_ GE113.out) | exact HB.out)) hb); have n4_ := Aside0.mk (hbox); have n5_ := Aside0.mk ((by rw [hg]; exact (keep_size (w := w) (g := g) (row := none) (by repeat (first | (with_reducible first | exact HK.out | apply KeepBut.set_ | apply keep_drewN | apply keep_drew | apply keep_alloc | refine keep_far ?_ GW113.out _) | exact HK.out))) : w.heap.size ≤ gb120)); have n6_ := Aside0.mk ((Nat.le_trans HW0.out (by rw [hg]; exact (keep_size (w := w) (g := g) (row := none) (by repeat (first | (with_reducible first | exact HK.out | apply KeepBut.set_ | apply keep_drewN | apply keep_drew | apply keep_alloc | refine keep_far ?_ GW113.out _) | exact HK.out))) : w.heap.size ≤ gb120) : w0.heap.size ≤ gb120)); have n7_ := Aside0.mk ((by rw [hg]; exact Nat.ne_of_lt (blk_lt (g := gb113) (o := .cells #[.int .i64 0, .int .i64 0, .int .i64 0, .slice none 0 0] 40 (0, 0)) (by (with_reducible repeat (first | refine blk_drewN ?_ _ | refine blk_drew ?_ | refine blk_alloc ?_ _)); exact BK113.out)) : gb113 ≠ gb120)); have n8_ := Aside0.mk ((by rw [hg]; exact Nat.ne_of_gt (blk_lt (g := gb113) (o := .cells #[.int .i64 0, .int .i64 0, .int .i64 0, .slice none 0 0] 40 (0, 0)) (by (with_reducible repeat (first | refine blk_drewN ?_ _ | refine blk_drew ?_ | refine blk_alloc ?_ _)); exact BK113.out)) : gb120 ≠ gb113)); have n9_ := Aside0.mk ((by rw [hg]; exact Nat.ne_of_lt (IsS82.lt (show IsS82 w0 _ g s0_0 t119 from by repeat (first | (with_reducible first | exact HI0.out | apply IsS82.alloc | apply IsS82.drewN | apply IsS82.drew | apply IsS82.set_1 | refine IsS82.far ?_ NB0_113.out _) | exact HI0.out))) : g ≠ gb120)); have n10_ := Aside0.mk ((by rw [hg]; exact Nat.ne_of_gt (IsS82.lt (show IsS82 w0 _ g s0_0 t119 from by repeat (first | (with_reducible first | exact HI0.out | apply IsS82.alloc | apply IsS82.drewN | apply IsS82.drew | apply IsS82.set_1 | refine IsS82.far ?_ NB0_113.out _) | exact HI0.out))) : gb120 ≠ g)); clear HI0; clear BK113; clear HK; clear HB; have HI0 := n0_; have BK113 := n1_; have HK := n2_; have HB := n3_; have BK120 := n4_; have GW120 := n5_; have GE120 := n6_; have NB113_120 := n7_; have NB120_113 := n8_; have NB0_120 := n9_; have NB120_0 := n10_; clear n0_ n1_ n2_ n3_ n4_ n5_ n6_ n7_ n8_ n9_ n10_; clear hb hbox hg; have hnb11 := NB120_113.out; have hnc11 := NB113_120.out; have hnb12 := NB120_0.out; have hnc12 := NB0_120.out; have hcz13_0 : w10.cell? ⟨gb120, 0, none⟩ = some (.int .i64 0) := (blk_cell BK120.out 0).trans rfl; have hcz13_1 : w10.cell? ⟨gb120, 1, none⟩ = some (.int .i64 0) := (blk_cell BK120.out 1).trans rfl; have hcz13_2 : w10.cell? ⟨gb120, 2, none⟩ = some (.int .i64 0) := (blk_cell BK120.out 2).trans rfl; have hcz13_3 : w10.cell? ⟨gb120, 3, none⟩ = some (.slice none 0 0) := (blk_cell BK120.out 3).trans rfl; have hfz13_0 := blk_frozen BK120.out 0; have hfz13_1 := blk_frozen BK120.out 1; have hfz13_2 := blk_frozen BK120.out 2; have hfz13_3 := blk_frozen BK120.out 3))
  have n0_ : Aside0 (((((w10.setCell ⟨gb120, 0, none⟩ (.int .i64 t114)).setCell ⟨gb120, 1, none⟩ (.int .i64 0)).setCell ⟨gb120, 2, none⟩ (.int .i64 (Go.bits .or .i64 t116 t118))).setCell ⟨gb120, 3, none⟩ (.slice none 0 0)).heap[gb113]? = some (.cells #[.int .i64 0, .int .i64 0, .int .i64 0, .slice none 0 0] 40 (0, 0))) := ⟨by (with_reducible repeat (first | refine blk_drewN ?_ _ | refine blk_drew ?_ | refine blk_alloc ?_ _)); refine blk_far ?_ NB113_120.out _; (with_reducible repeat (first | refine blk_drewN ?_ _ | refine blk_drew ?_ | refine blk_alloc ?_ _)); refine blk_far ?_ NB113_120.out _; (with_reducible repeat (first | refine blk_drewN ?_ _ | refine blk_drew ?_ | refine blk_alloc ?_ _)); refine blk_far ?_ NB113_120.out _; (with_reducible repeat (first | refine blk_drewN ?_ _ | refine blk_drew ?_ | refine blk_alloc ?_ _)); refine blk_far ?_ NB113_120.out _; (with_reducible repeat (first | refine blk_drewN ?_ _ | refine blk_drew ?_ | refine blk_alloc ?_ _)); exact BK113.out⟩
  have n1_ : Aside0 (((((w10.setCell ⟨gb120, 0, none⟩ (.int .i64 t114)).setCell ⟨gb120, 1, none⟩ (.int .i64 0)).setCell ⟨gb120, 2, none⟩ (.int .i64 (Go.bits .or .i64 t116 t118))).setCell ⟨gb120, 3, none⟩ (.slice none 0 0)).heap[gb120]? = some (.cells #[.int .i64 t114, .int .i64 0, .int .i64 (Go.bits .or .i64 t116 t118), .slice none 0 0] 40 (0, 0))) := ⟨by (with_reducible repeat (first | refine blk_drewN ?_ _ | refine blk_drew ?_ | refine blk_alloc ?_ _)); refine blk_put (cs := #[.int .i64 t114, .int .i64 0, .int .i64 (Go.bits .or .i64 t116 t118), .slice none 0 0]) ?_ 3 _ rfl; (with_reducible repeat (first | refine blk_drewN ?_ _ | refine blk_drew ?_ | refine blk_alloc ?_ _)); refine blk_put (cs := #[.int .i64 t114, .int .i64 0, .int .i64 0, .slice none 0 0]) ?_ 2 _ rfl; (with_reducible repeat (first | refine blk_drewN ?_ _ | refine blk_drew ?_ | refine blk_alloc ?_ _)); refine blk_put (cs := #[.int .i64 t114, .int .i64 0, .int .i64 0, .slice none 0 0]) ?_ 1 _ rfl; (with_reducible repeat (first | refine blk_drewN ?_ _ | refine blk_drew ?_ | refine blk_alloc ?_ _)); refine blk_put (cs := #[.int .i64 0, .int .i64 0, .int .i64 0, .slice none 0 0]) ?_ 0 _ rfl; (with_reducible repeat (first | refine blk_drewN ?_ _ | refine blk_drew ?_ | refine blk_alloc ?_ _)); exact BK120.out⟩
  have n2_ : Aside0 (IsS82 w0 ((((w10.setCell ⟨gb120, 0, none⟩ (.int .i64 t114)).setCell ⟨gb120, 1, none⟩ (.int .i64 0)).setCell ⟨gb120, 2, none⟩ (.int .i64 (Go.bits .or .i64 t116 t118))).setCell ⟨gb120, 3, none⟩ (.slice none 0 0)) g s0_0 t119) := ⟨by repeat (first | (with_reducible first | exact HI0.out | apply IsS82.alloc | apply IsS82.drewN | apply IsS82.drew | apply IsS82.set_1 | refine IsS82.far ?_ NB0_113.out _ | refine IsS82.far ?_ NB0_120.out _) | exact HI0.out)⟩
  have n3_ : Aside0 (KeepBut w ((((w10.setCell ⟨gb120, 0, none⟩ (.int .i64 t114)).setCell ⟨gb120, 1, none⟩ (.int .i64 0)).setCell ⟨gb120, 2, none⟩ (.int .i64 (Go.bits .or .i64 t116 t118))).setCell ⟨gb120, 3, none⟩ (.slice none 0 0)) g none) := ⟨by repeat (first | (with_reducible first | exact HK.out | apply KeepBut.set_ | apply keep_drewN | apply keep_drew | apply keep_alloc | refine keep_far ?_ GW113.out _ | refine keep_far ?_ GW120.out _) | exact HK.out)⟩
  have n4_ : Aside0 (Below w0.heap.size w0 ((((w10.setCell ⟨gb120, 0, none⟩ (.int .i64 t114)).setCell ⟨gb120, 1, none⟩ (.int .i64 0)).setCell ⟨gb120, 2, none⟩ (.int .i64 (Go.bits .or .i64 t116 t118))).setCell ⟨gb120, 3, none⟩ (.slice none 0 0))) := ⟨by repeat (first | (with_reducible first | exact HB.out | apply below_alloc | apply pw_below_drewN | apply below_drew1 | refine below_set ?_ (IsS82.ge HI0.out) | refine below_set ?_ GE113.out | refine below_set ?_ GE120.out) | exact HB.out)⟩
  (try clear BK113)
  (try clear BK120)
  (try clear HI0)
  (try clear HK)
  (try clear HB)
  generalize ((((w10.setCell ⟨gb120, 0, none⟩ (.int .i64 t114)).setCell ⟨gb120, 1, none⟩ (.int .i64 0)).setCell ⟨gb120, 2, none⟩ (.int .i64 (Go.bits .or .i64 t116 t118))).setCell ⟨gb120, 3, none⟩ (.slice none 0 0)) = w14 at n0_ n1_ n2_ n3_ n4_ ⊢
  have BK113 := n0_
  have BK120 := n1_
  have HI0 := n2_
  have HK := n3_
  have HB := n4_
  clear n0_ n1_ n2_ n3_ n4_
  have n0_ := Aside0.mk (blk_drew BK113.out)
  have n1_ := Aside0.mk (blk_drew BK120.out)
  have n2_ := Aside0.mk (IsS82.drew HI0.out)
  have n3_ := Aside0.mk (keep_drew HK.out)
  have n4_ := Aside0.mk (below_drew1 HB.out)
  clear BK113
  clear BK120
  clear HI0
  clear HK
  clear HB
  have BK113 := n0_
  have BK120 := n1_
  have HI0 := n2_
  have HK := n3_
  have HB := n4_
  clear n0_ n1_ n2_ n3_ n4_
  refine start_ (n := 7) (S := fun w' => w'.cell? ⟨gb120, 0, none⟩ = some (.int .i64 t114) ∧ w'.cell? ⟨gb120, 1, none⟩ = some (.int .i64 0) ∧ w'.cell? ⟨gb120, 2, none⟩ = some (.int .i64 (Go.bits .or .i64 t116 t118)) ∧ w'.cell? ⟨gb120, 3, none⟩ = some (.slice none 0 0)) (ds := [6]) #[false, false, false, false, false, false, false] (by kernel_rfl) rfl rfl ⟨(blk_cell BK120.out 0).trans rfl, (blk_cell BK120.out 1).trans rfl, (blk_cell BK120.out 2).trans rfl, (blk_cell BK120.out 3).trans rfl⟩ (fun hHeld => ?_)
  generalize w14.drew = w15 at BK113 BK120 HI0 HK HB hHeld ⊢
  refine pure_ (i := 0) (N := some 12) (v := ?_) (a' := ?_) #[true, false, false, false, false, false, false] rfl rfl (by kernel_rfl) (fun _ _ _ h => h) (Or.inl ⟨by rfl, ?_⟩) ?_ ?_
  rotate_left
  · intro w'
    go_simp
    with_reducible rfl
  rotate_left
  · simp only [Act.put, List.setIfInBounds_toArray, List.set_cons_zero, List.set_cons_succ, i64_w, i32_w]
    rfl
  refine pure_ (i := 2) (N := some 14) (v := ?_) (a' := ?_) #[true, false, true, false, false, false, false] rfl rfl (by kernel_rfl) (fun _ _ _ h => h) (Or.inl ⟨by rfl, ?_⟩) ?_ ?_
  rotate_left
  · intro w'
    go_simp
    with_reducible rfl
  rotate_left
  · simp only [Act.put, List.setIfInBounds_toArray, List.set_cons_zero, List.set_cons_succ, i64_w, i32_w]
    rfl
  refine take_ (i := 1) (N := some 13) (v := ?_) (a' := ?_) #[true, true, true, false, false, false, false] rfl rfl (by kernel_rfl) (fun _ _ _ h => h) (Or.inl ⟨by rfl, ?_⟩) hHeld ?_ ?_
  rotate_left
  · rintro w' ⟨s0, s1, s2, s3⟩
    go_simp
    with_reducible rfl
  rotate_left
  · simp only [Act.put, List.setIfInBounds_toArray, List.set_cons_zero, List.set_cons_succ, i64_w, i32_w]
    rfl
  refine one_ (i := 3) (N := some 15) #[true, true, true, true, false, false, false] rfl rfl (by kernel_rfl) (by decide) (fun K hK => ?_)
  refine goes_ Try.func63 (by kernel_rfl) rfl #[.pointer (some ⟨g, 0, none⟩), .int .i64 8] (by rfl) rfl rfl (by (try simp only [List.map_toArray, List.map_cons, List.map_nil]); first | done | rfl | (simp only [List.length_drop, List.length_take]; rfl)) ?_
  with_reducible refine (spec_reader_pick.calls k g s0_0 t119 8 t121 t122 w0 _ ?side1 ?side2 A5.out).mono ?_
  (case side1 => repeat (first | (with_reducible first | exact HI0.out | apply IsS82.alloc | apply IsS82.drewN | apply IsS82.drew | apply IsS82.set_1 | refine IsS82.far ?_ NB0_113.out _ | refine IsS82.far ?_ NB0_120.out _) | exact HI0.out))
  (case side2 => repeat (first | (with_reducible first | exact HB.out | apply below_alloc | apply pw_below_drewN | apply below_drew1 | refine below_set ?_ (IsS82.ge HI0.out) | refine below_set ?_ GE113.out | refine below_set ?_ GE120.out) | exact HB.out))
  rintro e w16 ⟨rfl, hi, hb, hk⟩
  refine ⟨_, rfl, ?_⟩
  have n0_ := Aside0.mk (KeepBut.blk hk (g' := gb113) (o := .cells #[.int .i64 0, .int .i64 0, .int .i64 0, .slice none 0 0] 40 (0, 0)) (by (with_reducible repeat (first | refine blk_drewN ?_ _ | refine blk_drew ?_ | refine blk_alloc ?_ _)); exact BK113.out) NB113_0.out (by simp))
  have n1_ := Aside0.mk (KeepBut.blk hk (g' := gb120) (o := .cells #[.int .i64 t114, .int .i64 0, .int .i64 (Go.bits .or .i64 t116 t118), .slice none 0 0] 40 (0, 0)) (by (with_reducible repeat (first | refine blk_drewN ?_ _ | refine blk_drew ?_ | refine blk_alloc ?_ _)); exact BK120.out) NB120_0.out (by simp))
  have n2_ := Aside0.mk (KeepBut.trans (by repeat (first | (with_reducible first | exact HK.out | apply KeepBut.set_ | apply keep_drewN | apply keep_drew | apply keep_alloc | refine keep_far ?_ GW113.out _ | refine keep_far ?_ GW120.out _) | exact HK.out)) hk (.inl rfl))
  have n3_ := Aside0.mk (hb)
  have n4_ := Aside0.mk (hi)
  clear BK113
  clear BK120
  clear HK
  clear HB
  clear HI0
  have BK113 := n0_
  have BK120 := n1_
  have HK := n2_
  have HB := n3_
  have HI0 := n4_
  clear n0_ n1_ n2_ n3_ n4_
  (try clear hb)
  (try clear hb2)
  (try clear hk)
  (try clear hi)
  refine hK.out _ _ ⟨(blk_cell BK120.out 0).trans rfl, (blk_cell BK120.out 1).trans rfl, (blk_cell BK120.out 2).trans rfl, (blk_cell BK120.out 3).trans rfl⟩ (fun hHeld => ?_)
  clear hK K
  refine norm_ (a' := ?_) ?_ ?_
  rotate_left
  · show Act.put _ (some 15) _ = _
    simp only [Act.put, List.setIfInBounds_toArray, List.set_cons_zero, List.set_cons_succ, i64_w, i32_w]
    rfl
  refine pure_ (i := 4) (N := some 16) (v := ?_) (a' := ?_) #[true, true, true, true, true, false, false] rfl rfl (by kernel_rfl) (fun _ _ _ h => h) (Or.inl ⟨by rfl, ?_⟩) ?_ ?_
  rotate_left
  · intro w'
    go_simp
    with_reducible rfl
  rotate_left
  · simp only [Act.put, List.setIfInBounds_toArray, List.set_cons_zero, List.set_cons_succ, i64_w, i32_w]
    rfl
  refine pure_ (i := 5) (N := some 17) (v := ?_) (a' := ?_) #[true, true, true, true, true, true, false] rfl rfl (by kernel_rfl) (fun _ _ _ h => h) (Or.inl ⟨by rfl, ?_⟩) ?_ ?_
  rotate_left
  · intro w'
    go_simp
    with_reducible rfl
  rotate_left
  · simp only [Act.put, List.setIfInBounds_toArray, List.set_cons_zero, List.set_cons_succ, i64_w, i32_w]
    rfl
  refine last_ (i := 6) (N := none) #[true, true, true, true, true, true, true] rfl rfl (by kernel_rfl) (by decide) (fun K hK => ?_)
  have hs17 : w16.cell? ⟨gb120, 1, none⟩ = some (.int .i64 0) := (blk_cell BK120.out 1).trans rfl
  have hfs17 := blk_frozen BK120.out 1
  have hns17_0 := NB113_120.out
  have hms17_0 := NB120_113.out
  refine skip_ (w1 := ?_) (by rfl) rfl ?_ ?_
  rotate_left
  · go_simp
    rfl
  refine hK.out _ _ ?_
  clear hK K
  refine done_ (by kernel_rfl) ?_
  try go_wp2
  go_loopg [] k (fun kq w' => ∃ (x1001_1 : Int) (x121003_1 : List Int) (u121003 : Value), Aside0 (spec_anOffer.l0 kq s0_0 x1001_1 t114 (wrap64 (t114 + t121)) (Go.bits .or .i64 t116 t118) x121003_1 = some (r1, r2, r3, r4, r5)) ∧ Aside0 (kq ≤ k) ∧ Aside0 (Kd.Q (Kd.int .i64) 3 w' w.heap.size (fun _ => True) u121003 x121003_1) ∧ Aside0 (w'.heap[gb113]? = some (.cells #[.int .i64 0, .int .i64 0, .int .i64 0, (.slice none 0 0)] 40 (0, 0))) ∧ Aside0 (w'.heap[gb120]? = some (.cells #[.int .i64 t114, .int .i64 (wrap64 (t114 + t121)), .int .i64 (Go.bits .or .i64 t116 t118), u121003] 40 (0, 0))) ∧ Aside0 (IsS82 w0 w' g s0_0 x1001_1) ∧ Aside0 (KeepBut w w' g none) ∧ Aside0 (Below w0.heap.size w0 w'))
  case atStart => exact ⟨(t122), (([] : List Int)), (.slice none 0 0), H', ⟨Nat.le_refl _⟩, ⟨Kd.Q_of_R (by first | exact Kd.R_nil _ _ _ _ _ | exact Kd.N_nil _ _ _ _ _ | exact Kd.V_nil _ _ _ _ _ | exact Kd.Q_nil _ _ _ _ _ | exact Kd.S_nil _ _ _ _ _)⟩, ⟨by (with_reducible repeat (first | refine blk_drewN ?_ _ | refine blk_drew ?_ | refine blk_alloc ?_ _)); refine blk_far ?_ NB113_120.out _; (with_reducible repeat (first | refine blk_drewN ?_ _ | refine blk_drew ?_ | refine blk_alloc ?_ _)); exact BK113.out⟩, ⟨by (with_reducible repeat (first | refine blk_drewN ?_ _ | refine blk_drew ?_ | refine blk_alloc ?_ _)); refine blk_put (cs := #[.int .i64 t114, .int .i64 0, .int .i64 (Go.bits .or .i64 t116 t118), .slice none 0 0]) ?_ 1 _ rfl; (with_reducible repeat (first | refine blk_drewN ?_ _ | refine blk_drew ?_ | refine blk_alloc ?_ _)); exact BK120.out⟩, ⟨by repeat (first | (with_reducible first | exact HI0.out | apply IsS82.alloc | apply IsS82.drewN | apply IsS82.drew | apply IsS82.set_1 | refine IsS82.far ?_ NB0_113.out _ | refine IsS82.far ?_ NB0_120.out _) | exact HI0.out)⟩, ⟨by repeat (first | (with_reducible first | exact HK.out | apply KeepBut.set_ | apply keep_drewN | apply keep_drew | apply keep_alloc | refine keep_far ?_ GW113.out _ | refine keep_far ?_ GW120.out _) | exact HK.out)⟩, ⟨by repeat (first | (with_reducible first | exact HB.out | apply below_alloc | apply pw_below_drewN | apply below_drew1 | refine below_set ?_ (IsS82.ge HI0.out) | refine below_set ?_ GE113.out | refine below_set ?_ GE120.out) | exact HB.out)⟩⟩
  case round =>
    clear H'
    try clear c1
    try clear p2
    try clear c5
    try clear c6
    try clear p6
    try clear c11
    try clear c12
    try clear hcz13_0
    try clear hcz13_1
    try clear hcz13_2
    try clear hcz13_3
    try clear hfz13_0
    try clear hfz13_1
    try clear hfz13_2
    try clear hfz13_3
    obtain ⟨x1001_1, x121003_1, u121003, HA, HK1, HO_121003, BK113, BK120, HI0, HK, HB⟩ := hrel
    cases gk with
    | zero => exact absurd HA.out (by simp [spec_anOffer.l0])
    | succ k1 =>
      have H := HA.out
      clear HA
      simp only [spec_anOffer.l0] at H
      by_cases c18 : (x121003_1.length : Int) < 5
      · rw [if_pos c18] at H
        have c18b0 : decide ((x121003_1.length : Int) < 5) = true := decide_eq_true c18
        have c18b1 : decide (x121003_1.length < 5) = true := decide_eq_true (by omega)
        clear c18
        replace H := Option.bind_eq_some_iff.mp H
        obtain ⟨⟨t123, t124⟩, A190, H⟩ := H
        replace H : ((spec_power.f k1 t123).bind fun t125 => ((spec_reader_pick.f k1 s0_0 t124 5).bind fun bt126 => ((spec_power.f k1 bt126.1).bind fun t128 => ((spec_reader_pick.f k1 s0_0 bt126.2 5).bind fun bt129 => ((spec_power.f k1 bt129.1).bind fun t131 => ((spec_reader_one.f k1 s0_0 bt129.2 (([0, 0, t125, Go.bits .or .i64 t128 t131] : List Int))).bind fun bt135 => (if x121003_1.length < 17592186044416 then (spec_anOffer.l0 k1 s0_0 bt135.2 t114 (wrap64 (t114 + t121)) (Go.bits .or .i64 t116 t118) (x121003_1 ++ [bt135.1])) else (none)))))))) = some (r1, r2, r3, r4, r5) := H
        have A19 := Aside0.mk A190
        clear A190
        replace H := Option.bind_eq_some_iff.mp H
        obtain ⟨t125, A200, H⟩ := H
        replace H : ((spec_reader_pick.f k1 s0_0 t124 5).bind fun bt126 => ((spec_power.f k1 bt126.1).bind fun t128 => ((spec_reader_pick.f k1 s0_0 bt126.2 5).bind fun bt129 => ((spec_power.f k1 bt129.1).bind fun t131 => ((spec_reader_one.f k1 s0_0 bt129.2 (([0, 0, t125, Go.bits .or .i64 t128 t131] : List Int))).bind fun bt135 => (if x121003_1.length < 17592186044416 then (spec_anOffer.l0 k1 s0_0 bt135.2 t114 (wrap64 (t114 + t121)) (Go.bits .or .i64 t116 t118) (x121003_1 ++ [bt135.1])) else (none))))))) = some (r1, r2, r3, r4, r5) := H
        have A20 := Aside0.mk A200
        clear A200
        replace H := Option.bind_eq_some_iff.mp H
        obtain ⟨⟨t126, t127⟩, A210, H⟩ := H
        replace H : ((spec_power.f k1 t126).bind fun t128 => ((spec_reader_pick.f k1 s0_0 t127 5).bind fun bt129 => ((spec_power.f k1 bt129.1).bind fun t131 => ((spec_reader_one.f k1 s0_0 bt129.2 (([0, 0, t125, Go.bits .or .i64 t128 t131] : List Int))).bind fun bt135 => (if x121003_1.length < 17592186044416 then (spec_anOffer.l0 k1 s0_0 bt135.2 t114 (wrap64 (t114 + t121)) (Go.bits .or .i64 t116 t118) (x121003_1 ++ [bt135.1])) else (none)))))) = some (r1, r2, r3, r4, r5) := H
        have A21 := Aside0.mk A210
        clear A210
        replace H := Option.bind_eq_some_iff.mp H
        obtain ⟨t128, A220, H⟩ := H
        replace H : ((spec_reader_pick.f k1 s0_0 t127 5).bind fun bt129 => ((spec_power.f k1 bt129.1).bind fun t131 => ((spec_reader_one.f k1 s0_0 bt129.2 (([0, 0, t125, Go.bits .or .i64 t128 t131] : List Int))).bind fun bt135 => (if x121003_1.length < 17592186044416 then (spec_anOffer.l0 k1 s0_0 bt135.2 t114 (wrap64 (t114 + t121)) (Go.bits .or .i64 t116 t118) (x121003_1 ++ [bt135.1])) else (none))))) = some (r1, r2, r3, r4, r5) := H
        have A22 := Aside0.mk A220
        clear A220
        replace H := Option.bind_eq_some_iff.mp H
        obtain ⟨⟨t129, t130⟩, A230, H⟩ := H
        replace H : ((spec_power.f k1 t129).bind fun t131 => ((spec_reader_one.f k1 s0_0 t130 (([0, 0, t125, Go.bits .or .i64 t128 t131] : List Int))).bind fun bt135 => (if x121003_1.length < 17592186044416 then (spec_anOffer.l0 k1 s0_0 bt135.2 t114 (wrap64 (t114 + t121)) (Go.bits .or .i64 t116 t118) (x121003_1 ++ [bt135.1])) else (none)))) = some (r1, r2, r3, r4, r5) := H
        have A23 := Aside0.mk A230
        clear A230
        replace H := Option.bind_eq_some_iff.mp H
        obtain ⟨t131, A240, H⟩ := H
        replace H : ((spec_reader_one.f k1 s0_0 t130 (([0, 0, t125, Go.bits .or .i64 t128 t131] : List Int))).bind fun bt135 => (if x121003_1.length < 17592186044416 then (spec_anOffer.l0 k1 s0_0 bt135.2 t114 (wrap64 (t114 + t121)) (Go.bits .or .i64 t116 t118) (x121003_1 ++ [bt135.1])) else (none))) = some (r1, r2, r3, r4, r5) := H
        have A24 := Aside0.mk A240
        clear A240
        obtain ⟨y132, hy132⟩ : ∃ y_ : List Int, y_ = (([0, 0, t125, Go.bits .or .i64 t128 t131] : List Int)) := ⟨_, rfl⟩
        replace H : ((spec_reader_one.f k1 s0_0 t130 y132).bind fun bt135 => (if x121003_1.length < 17592186044416 then (spec_anOffer.l0 k1 s0_0 bt135.2 t114 (wrap64 (t114 + t121)) (Go.bits .or .i64 t116 t118) (x121003_1 ++ [bt135.1])) else (none))) = some (r1, r2, r3, r4, r5) := by first | (rw [hy132]; with_reducible exact H) | (have H2_ := (Option.bind_some _ _).symm.trans H; rw [hy132]; with_reducible exact H2_) | (have H2_ := (Option.bind_some _ _).symm.trans H; with_reducible exact H2_) | with_reducible exact H | (rw [hy132]; exact H) | exact H
        have Ny132 := Aside0.mk hy132
        clear hy132
        replace H := Option.bind_eq_some_iff.mp H
        obtain ⟨⟨t135, t136⟩, A250, H⟩ := H
        replace H : (if x121003_1.length < 17592186044416 then (spec_anOffer.l0 k1 s0_0 t136 t114 (wrap64 (t114 + t121)) (Go.bits .or .i64 t116 t118) (x121003_1 ++ [t135])) else (none)) = some (r1, r2, r3, r4, r5) := H
        have A25 := Aside0.mk A250
        clear A250
        by_cases c26 : x121003_1.length < 17592186044416
        · rw [if_pos c26] at H
          have LMc26 := Aside0.mk c26
          clear c26
          obtain ⟨y137, hy137⟩ : ∃ y_ : List Int, y_ = (x121003_1 ++ [t135]) := ⟨_, rfl⟩
          replace H : (spec_anOffer.l0 k1 s0_0 t136 t114 (wrap64 (t114 + t121)) (Go.bits .or .i64 t116 t118) y137) = some (r1, r2, r3, r4, r5) := by first | (rw [hy137]; with_reducible exact H) | (have H2_ := (Option.bind_some _ _).symm.trans H; rw [hy137]; with_reducible exact H2_) | (have H2_ := (Option.bind_some _ _).symm.trans H; with_reducible exact H2_) | with_reducible exact H | (rw [hy137]; exact H) | exact H
          have Ny137 := Aside0.mk hy137
          clear hy137
          have H' := Aside0.mk H
          clear H
          have hnb27 := NB120_113.out
          have hnc27 := NB113_120.out
          have hnb28 := NB120_0.out
          have hnc28 := NB0_120.out
          have hcz29_0 : wr.cell? ⟨gb120, 0, none⟩ = some (.int .i64 t114) := (blk_cell BK120.out 0).trans rfl
          have hcz29_1 : wr.cell? ⟨gb120, 1, none⟩ = some (.int .i64 (wrap64 (t114 + t121))) := (blk_cell BK120.out 1).trans rfl
          have hcz29_2 : wr.cell? ⟨gb120, 2, none⟩ = some (.int .i64 (Go.bits .or .i64 t116 t118)) := (blk_cell BK120.out 2).trans rfl
          have hcz29_3 : wr.cell? ⟨gb120, 3, none⟩ = some (u121003) := (blk_cell BK120.out 3).trans rfl
          have hfz29_0 := blk_frozen BK120.out 0
          have hfz29_1 := blk_frozen BK120.out 1
          have hfz29_2 := blk_frozen BK120.out 2
          have hfz29_3 := blk_frozen BK120.out 3
          obtain ⟨Ao30, co30, eo30, _⟩ := Kd.Q_slice HO_121003.out
          subst eo30
          try go_wp2
          have n0_ := Aside0.mk (Kd.Q_drew HO_121003.out)
          have n1_ := Aside0.mk (blk_drew BK113.out)
          have n2_ := Aside0.mk (blk_drew BK120.out)
          have n3_ := Aside0.mk (IsS82.drew HI0.out)
          have n4_ := Aside0.mk (keep_drew HK.out)
          have n5_ := Aside0.mk (below_drew1 HB.out)
          clear HO_121003
          clear BK113
          clear BK120
          clear HI0
          clear HK
          clear HB
          have HO_121003 := n0_
          have BK113 := n1_
          have BK120 := n2_
          have HI0 := n3_
          have HK := n4_
          have HB := n5_
          clear n0_ n1_ n2_ n3_ n4_ n5_
          refine start_ (n := 19) (S := fun w' => w'.cell? ⟨gb120, 0, none⟩ = some (.int .i64 t114) ∧ w'.cell? ⟨gb120, 1, none⟩ = some (.int .i64 (wrap64 (t114 + t121))) ∧ w'.cell? ⟨gb120, 2, none⟩ = some (.int .i64 (Go.bits .or .i64 t116 t118)) ∧ w'.cell? ⟨gb120, 3, none⟩ = some (.slice Ao30 x121003_1.length co30)) (ds := [18]) #[false, false, false, false, false, false, false, false, false, false, false, false, false, false, false, false, false, false, false] (by kernel_rfl) rfl rfl ⟨(blk_cell BK120.out 0).trans rfl, (blk_cell BK120.out 1).trans rfl, (blk_cell BK120.out 2).trans rfl, (blk_cell BK120.out 3).trans rfl⟩ (fun hHeld => ?_); refine with_tabW spec_anOffer.tab4 spec_anOffer.bits4 (fun HT_ HW_ => ?_)
          generalize wr.drew = w31 at HO_121003 BK113 BK120 HI0 HK HB hHeld ⊢
          refine pure_ (i := 0) (N := some 22) (v := ?_) (a' := ?_) #[true, false, false, false, false, false, false, false, false, false, false, false, false, false, false, false, false, false, false] rfl rfl (any_of HT_.out (by kernel_rfl)) (fun _ _ _ h => h) (Or.inl ⟨by rfl, ?_⟩) ?_ ?_
          rotate_left
          · intro w'
            go_simp
            with_reducible rfl
          rotate_left
          · simp only [Act.put, List.setIfInBounds_toArray, List.set_cons_zero, List.set_cons_succ, i64_w, i32_w]
            rfl
          refine pure_ (i := 2) (N := some 24) (v := ?_) (a' := ?_) #[true, false, true, false, false, false, false, false, false, false, false, false, false, false, false, false, false, false, false] rfl rfl (any_of HT_.out (by kernel_rfl)) (fun _ _ _ h => h) (Or.inl ⟨by rfl, ?_⟩) ?_ ?_
          rotate_left
          · intro w'
            go_simp
            with_reducible rfl
          rotate_left
          · simp only [Act.put, List.setIfInBounds_toArray, List.set_cons_zero, List.set_cons_succ, i64_w, i32_w]
            rfl
          refine pure_ (i := 3) (N := some 25) (v := ?_) (a' := ?_) #[true, false, true, true, false, false, false, false, false, false, false, false, false, false, false, false, false, false, false] rfl rfl (any_of HT_.out (by kernel_rfl)) (fun _ _ _ h => h) (Or.inl ⟨by rfl, ?_⟩) ?_ ?_
          rotate_left
          · intro w'
            go_simp
            with_reducible rfl
          rotate_left
          · simp only [Act.put, List.setIfInBounds_toArray, List.set_cons_zero, List.set_cons_succ, i64_w, i32_w]
            rfl
          refine pure_ (i := 6) (N := some 28) (v := ?_) (a' := ?_) #[true, false, true, true, false, false, true, false, false, false, false, false, false, false, false, false, false, false, false] rfl rfl (any_of HT_.out (by kernel_rfl)) (fun _ _ _ h => h) (Or.inl ⟨by rfl, ?_⟩) ?_ ?_
          rotate_left
          · intro w'
            go_simp
            with_reducible rfl
          rotate_left
          · simp only [Act.put, List.setIfInBounds_toArray, List.set_cons_zero, List.set_cons_succ, i64_w, i32_w]
            rfl
          refine pure_ (i := 9) (N := some 31) (v := ?_) (a' := ?_) #[true, false, true, true, false, false, true, false, false, true, false, false, false, false, false, false, false, false, false] rfl rfl (any_of HT_.out (by kernel_rfl)) (fun _ _ _ h => h) (Or.inl ⟨by rfl, ?_⟩) ?_ ?_
          rotate_left
          · intro w'
            go_simp
            with_reducible rfl
          rotate_left
          · simp only [Act.put, List.setIfInBounds_toArray, List.set_cons_zero, List.set_cons_succ, i64_w, i32_w]
            rfl
          refine take_ (i := 1) (N := some 23) (v := ?_) (a' := ?_) #[true, true, true, true, false, false, true, false, false, true, false, false, false, false, false, false, false, false, false] rfl rfl (take_ofW HT_.out HW_.out (by kernel_rfl)) (fun _ _ _ h => h) (Or.inl ⟨by rfl, ?_⟩) hHeld ?_ ?_
          rotate_left
          · rintro w' ⟨s0, s1, s2, s3⟩
            go_simp
            with_reducible rfl
          rotate_left
          · simp only [Act.put, List.setIfInBounds_toArray, List.set_cons_zero, List.set_cons_succ, i64_w, i32_w]
            rfl
          refine one_ (i := 4) (N := some 26) #[true, true, true, true, true, false, true, false, false, true, false, false, false, false, false, false, false, false, false] rfl rfl (one_of HT_.out (by kernel_rfl)) (by decide) (fun K hK => ?_)
          refine goes_ Try.func63 (by kernel_rfl) rfl #[.pointer (some ⟨g, 0, none⟩), .int .i64 5] (by rfl) rfl rfl (by (try simp only [List.map_toArray, List.map_cons, List.map_nil]); first | done | rfl | (simp only [List.length_drop, List.length_take]; rfl)) ?_
          with_reducible refine (spec_reader_pick.calls k1 g s0_0 x1001_1 5 t123 t124 w0 _ ?side1 ?side2 A19.out).mono ?_
          (case side1 => repeat (first | (with_reducible first | exact HI0.out | apply IsS82.alloc | apply IsS82.drewN | apply IsS82.drew | apply IsS82.set_1 | refine IsS82.far ?_ NB0_113.out _ | refine IsS82.far ?_ NB0_120.out _) | exact HI0.out))
          (case side2 => repeat (first | (with_reducible first | exact HB.out | apply below_alloc | apply pw_below_drewN | apply below_drew1 | refine below_set ?_ (IsS82.ge HI0.out) | refine below_set ?_ GE113.out | refine below_set ?_ GE120.out) | exact HB.out))
          rintro e w32 ⟨rfl, hi, hb, hk⟩
          refine ⟨_, rfl, ?_⟩
          have n0_ := Aside0.mk (Kd.Q_mono (Kd.Q_keep (IsS82.apartQ (show IsS82 w0 _ g s0_0 x1001_1 from by repeat (first | (with_reducible first | exact HI0.out | apply IsS82.alloc | apply IsS82.drewN | apply IsS82.drew | apply IsS82.set_1 | refine IsS82.far ?_ NB0_113.out _ | refine IsS82.far ?_ NB0_120.out _) | exact HI0.out)) (by (with_reducible repeat (first | apply Kd.Q_alloc | apply Kd.Q_drewN | apply Kd.Q_drew)); exact HO_121003.out) (by decide)) hk (fun _ h => h.2)) (fun _ h => h.1))
          have n1_ := Aside0.mk (KeepBut.blk hk (g' := gb113) (o := .cells #[.int .i64 0, .int .i64 0, .int .i64 0, .slice none 0 0] 40 (0, 0)) (by (with_reducible repeat (first | refine blk_drewN ?_ _ | refine blk_drew ?_ | refine blk_alloc ?_ _)); exact BK113.out) NB113_0.out (by simp))
          have n2_ := Aside0.mk (KeepBut.blk hk (g' := gb120) (o := .cells #[.int .i64 t114, .int .i64 (wrap64 (t114 + t121)), .int .i64 (Go.bits .or .i64 t116 t118), .slice Ao30 x121003_1.length co30] 40 (0, 0)) (by (with_reducible repeat (first | refine blk_drewN ?_ _ | refine blk_drew ?_ | refine blk_alloc ?_ _)); exact BK120.out) NB120_0.out (by simp))
          have n3_ := Aside0.mk (KeepBut.trans (by repeat (first | (with_reducible first | exact HK.out | apply KeepBut.set_ | apply keep_drewN | apply keep_drew | apply keep_alloc | refine keep_far ?_ GW113.out _ | refine keep_far ?_ GW120.out _) | exact HK.out)) hk (.inl rfl))
          have n4_ := Aside0.mk (hb)
          have n5_ := Aside0.mk (hi)
          clear HO_121003
          clear BK113
          clear BK120
          clear HK
          clear HB
          clear HI0
          have HO_121003 := n0_
          have BK113 := n1_
          have BK120 := n2_
          have HK := n3_
          have HB := n4_
          have HI0 := n5_
          clear n0_ n1_ n2_ n3_ n4_ n5_
          (try clear hb)
          (try clear hb2)
          (try clear hk)
          (try clear hi)
          refine hK.out _ _ ⟨(blk_cell BK120.out 0).trans rfl, (blk_cell BK120.out 1).trans rfl, (blk_cell BK120.out 2).trans rfl, (blk_cell BK120.out 3).trans rfl⟩ (fun hHeld => ?_)
          clear hK K
          refine norm_ (a' := ?_) ?_ ?_
          rotate_left
          · show Act.put _ (some 26) _ = _
            simp only [Act.put, List.setIfInBounds_toArray, List.set_cons_zero, List.set_cons_succ, i64_w, i32_w]
            rfl
          refine one_ (i := 5) (N := some 27) #[true, true, true, true, true, true, true, false, false, true, false, false, false, false, false, false, false, false, false] rfl rfl (one_of HT_.out (by kernel_rfl)) (by decide) (fun K hK => ?_)
          refine goes_ Try.func70 (by kernel_rfl) rfl #[.int .i64 t123] (by rfl) rfl rfl (by (try simp only [List.map_toArray, List.map_cons, List.map_nil]); first | done | rfl | (simp only [List.length_drop, List.length_take]; rfl)) ?_
          with_reducible refine (spec_power.calls k1 t123 t125 _ A20.out).mono ?_
          rintro e w' ⟨rfl, ⟨nd, rfl⟩⟩
          refine ⟨_, rfl, ?_⟩
          refine hK.out _ _ ⟨(blk_cell BK120.out 0).trans rfl, (blk_cell BK120.out 1).trans rfl, (blk_cell BK120.out 2).trans rfl, (blk_cell BK120.out 3).trans rfl⟩ (fun hHeld => ?_)
          clear hK K
          refine norm_ (a' := ?_) ?_ ?_
          rotate_left
          · show Act.put _ (some 27) _ = _
            simp only [Act.put, List.setIfInBounds_toArray, List.set_cons_zero, List.set_cons_succ, i64_w, i32_w]
            rfl
          refine one_ (i := 7) (N := some 29) #[true, true, true, true, true, true, true, true, false, true, false, false, false, false, false, false, false, false, false] rfl rfl (one_of HT_.out (by kernel_rfl)) (by decide) (fun K hK => ?_)
          refine goes_ Try.func63 (by kernel_rfl) rfl #[.pointer (some ⟨g, 0, none⟩), .int .i64 5] (by rfl) rfl rfl (by (try simp only [List.map_toArray, List.map_cons, List.map_nil]); first | done | rfl | (simp only [List.length_drop, List.length_take]; rfl)) ?_
          with_reducible refine (spec_reader_pick.calls k1 g s0_0 t124 5 t126 t127 w0 _ ?side1 ?side2 A21.out).mono ?_
          (case side1 => repeat (first | (with_reducible first | exact HI0.out | apply IsS82.alloc | apply IsS82.drewN | apply IsS82.drew | apply IsS82.set_1 | refine IsS82.far ?_ NB0_113.out _ | refine IsS82.far ?_ NB0_120.out _) | exact HI0.out))
          (case side2 => repeat (first | (with_reducible first | exact HB.out | apply below_alloc | apply pw_below_drewN | apply below_drew1 | refine below_set ?_ (IsS82.ge HI0.out) | refine below_set ?_ GE113.out | refine below_set ?_ GE120.out) | exact HB.out))
          rintro e w33 ⟨rfl, hi, hb, hk⟩
          refine ⟨_, rfl, ?_⟩
          have n0_ := Aside0.mk (Kd.Q_mono (Kd.Q_keep (IsS82.apartQ (show IsS82 w0 _ g s0_0 t124 from by repeat (first | (with_reducible first | exact HI0.out | apply IsS82.alloc | apply IsS82.drewN | apply IsS82.drew | apply IsS82.set_1 | refine IsS82.far ?_ NB0_113.out _ | refine IsS82.far ?_ NB0_120.out _) | exact HI0.out)) (by (with_reducible repeat (first | apply Kd.Q_alloc | apply Kd.Q_drewN | apply Kd.Q_drew)); exact HO_121003.out) (by decide)) hk (fun _ h => h.2)) (fun _ h => h.1))
          have n1_ := Aside0.mk (KeepBut.blk hk (g' := gb113) (o := .cells #[.int .i64 0, .int .i64 0, .int .i64 0, .slice none 0 0] 40 (0, 0)) (by (with_reducible repeat (first | refine blk_drewN ?_ _ | refine blk_drew ?_ | refine blk_alloc ?_ _)); exact BK113.out) NB113_0.out (by simp))
          have n2_ := Aside0.mk (KeepBut.blk hk (g' := gb120) (o := .cells #[.int .i64 t114, .int .i64 (wrap64 (t114 + t121)), .int .i64 (Go.bits .or .i64 t116 t118), .slice Ao30 x121003_1.length co30] 40 (0, 0)) (by (with_reducible repeat (first | refine blk_drewN ?_ _ | refine blk_drew ?_ | refine blk_alloc ?_ _)); exact BK120.out) NB120_0.out (by simp))
          have n3_ := Aside0.mk (KeepBut.trans (by repeat (first | (with_reducible first | exact HK.out | apply KeepBut.set_ | apply keep_drewN | apply keep_drew | apply keep_alloc | refine keep_far ?_ GW113.out _ | refine keep_far ?_ GW120.out _) | exact HK.out)) hk (.inl rfl))
          have n4_ := Aside0.mk (hb)
          have n5_ := Aside0.mk (hi)
          clear HO_121003
          clear BK113
          clear BK120
          clear HK
          clear HB
          clear HI0
          have HO_121003 := n0_
          have BK113 := n1_
          have BK120 := n2_
          have HK := n3_
          have HB := n4_
          have HI0 := n5_
          clear n0_ n1_ n2_ n3_ n4_ n5_
          (try clear hb)
          (try clear hb2)
          (try clear hk)
          (try clear hi)
          refine hK.out _ _ ⟨(blk_cell BK120.out 0).trans rfl, (blk_cell BK120.out 1).trans rfl, (blk_cell BK120.out 2).trans rfl, (blk_cell BK120.out 3).trans rfl⟩ (fun hHeld => ?_)
          clear hK K
          refine norm_ (a' := ?_) ?_ ?_
          rotate_left
          · show Act.put _ (some 29) _ = _
            simp only [Act.put, List.setIfInBounds_toArray, List.set_cons_zero, List.set_cons_succ, i64_w, i32_w]
            rfl
          refine one_ (i := 8) (N := some 30) #[true, true, true, true, true, true, true, true, true, true, false, false, false, false, false, false, false, false, false] rfl rfl (one_of HT_.out (by kernel_rfl)) (by decide) (fun K hK => ?_)
          refine goes_ Try.func70 (by kernel_rfl) rfl #[.int .i64 t126] (by rfl) rfl rfl (by (try simp only [List.map_toArray, List.map_cons, List.map_nil]); first | done | rfl | (simp only [List.length_drop, List.length_take]; rfl)) ?_
          with_reducible refine (spec_power.calls k1 t126 t128 _ A22.out).mono ?_
          rintro e w' ⟨rfl, ⟨nd, rfl⟩⟩
          refine ⟨_, rfl, ?_⟩
          refine hK.out _ _ ⟨(blk_cell BK120.out 0).trans rfl, (blk_cell BK120.out 1).trans rfl, (blk_cell BK120.out 2).trans rfl, (blk_cell BK120.out 3).trans rfl⟩ (fun hHeld => ?_)
          clear hK K
          refine norm_ (a' := ?_) ?_ ?_
          rotate_left
          · show Act.put _ (some 30) _ = _
            simp only [Act.put, List.setIfInBounds_toArray, List.set_cons_zero, List.set_cons_succ, i64_w, i32_w]
            rfl
          refine one_ (i := 10) (N := some 32) #[true, true, true, true, true, true, true, true, true, true, true, false, false, false, false, false, false, false, false] rfl rfl (one_of HT_.out (by kernel_rfl)) (by decide) (fun K hK => ?_)
          refine goes_ Try.func63 (by kernel_rfl) rfl #[.pointer (some ⟨g, 0, none⟩), .int .i64 5] (by rfl) rfl rfl (by (try simp only [List.map_toArray, List.map_cons, List.map_nil]); first | done | rfl | (simp only [List.length_drop, List.length_take]; rfl)) ?_
          with_reducible refine (spec_reader_pick.calls k1 g s0_0 t127 5 t129 t130 w0 _ ?side1 ?side2 A23.out).mono ?_
          (case side1 => repeat (first | (with_reducible first | exact HI0.out | apply IsS82.alloc | apply IsS82.drewN | apply IsS82.drew | apply IsS82.set_1 | refine IsS82.far ?_ NB0_113.out _ | refine IsS82.far ?_ NB0_120.out _) | exact HI0.out))
          (case side2 => repeat (first | (with_reducible first | exact HB.out | apply below_alloc | apply pw_below_drewN | apply below_drew1 | refine below_set ?_ (IsS82.ge HI0.out) | refine below_set ?_ GE113.out | refine below_set ?_ GE120.out) | exact HB.out))
          rintro e w34 ⟨rfl, hi, hb, hk⟩
          refine ⟨_, rfl, ?_⟩
          have n0_ := Aside0.mk (Kd.Q_mono (Kd.Q_keep (IsS82.apartQ (show IsS82 w0 _ g s0_0 t127 from by repeat (first | (with_reducible first | exact HI0.out | apply IsS82.alloc | apply IsS82.drewN | apply IsS82.drew | apply IsS82.set_1 | refine IsS82.far ?_ NB0_113.out _ | refine IsS82.far ?_ NB0_120.out _) | exact HI0.out)) (by (with_reducible repeat (first | apply Kd.Q_alloc | apply Kd.Q_drewN | apply Kd.Q_drew)); exact HO_121003.out) (by decide)) hk (fun _ h => h.2)) (fun _ h => h.1))
          have n1_ := Aside0.mk (KeepBut.blk hk (g' := gb113) (o := .cells #[.int .i64 0, .int .i64 0, .int .i64 0, .slice none 0 0] 40 (0, 0)) (by (with_reducible repeat (first | refine blk_drewN ?_ _ | refine blk_drew ?_ | refine blk_alloc ?_ _)); exact BK113.out) NB113_0.out (by simp))
          have n2_ := Aside0.mk (KeepBut.blk hk (g' := gb120) (o := .cells #[.int .i64 t114, .int .i64 (wrap64 (t114 + t121)), .int .i64 (Go.bits .or .i64 t116 t118), .slice Ao30 x121003_1.length co30] 40 (0, 0)) (by (with_reducible repeat (first | refine blk_drewN ?_ _ | refine blk_drew ?_ | refine blk_alloc ?_ _)); exact BK120.out) NB120_0.out (by simp))
          have n3_ := Aside0.mk (KeepBut.trans (by repeat (first | (with_reducible first | exact HK.out | apply KeepBut.set_ | apply keep_drewN | apply keep_drew | apply keep_alloc | refine keep_far ?_ GW113.out _ | refine keep_far ?_ GW120.out _) | exact HK.out)) hk (.inl rfl))
          have n4_ := Aside0.mk (hb)
          have n5_ := Aside0.mk (hi)
          clear HO_121003
          clear BK113
          clear BK120
          clear HK
          clear HB
          clear HI0
          have HO_121003 := n0_
          have BK113 := n1_
          have BK120 := n2_
          have HK := n3_
          have HB := n4_
          have HI0 := n5_
          clear n0_ n1_ n2_ n3_ n4_ n5_
          (try clear hb)
          (try clear hb2)
          (try clear hk)
          (try clear hi)
          refine hK.out _ _ ⟨(blk_cell BK120.out 0).trans rfl, (blk_cell BK120.out 1).trans rfl, (blk_cell BK120.out 2).trans rfl, (blk_cell BK120.out 3).trans rfl⟩ (fun hHeld => ?_)
          clear hK K
          refine norm_ (a' := ?_) ?_ ?_
          rotate_left
          · show Act.put _ (some 32) _ = _
            simp only [Act.put, List.setIfInBounds_toArray, List.set_cons_zero, List.set_cons_succ, i64_w, i32_w]
            rfl
          refine one_ (i := 11) (N := some 33) #[true, true, true, true, true, true, true, true, true, true, true, true, false, false, false, false, false, false, false] rfl rfl (one_of HT_.out (by kernel_rfl)) (by decide) (fun K hK => ?_)
          refine goes_ Try.func70 (by kernel_rfl) rfl #[.int .i64 t129] (by rfl) rfl rfl (by (try simp only [List.map_toArray, List.map_cons, List.map_nil]); first | done | rfl | (simp only [List.length_drop, List.length_take]; rfl)) ?_
          with_reducible refine (spec_power.calls k1 t129 t131 _ A24.out).mono ?_
          rintro e w' ⟨rfl, ⟨nd, rfl⟩⟩
          refine ⟨_, rfl, ?_⟩
          refine hK.out _ _ ⟨(blk_cell BK120.out 0).trans rfl, (blk_cell BK120.out 1).trans rfl, (blk_cell BK120.out 2).trans rfl, (blk_cell BK120.out 3).trans rfl⟩ (fun hHeld => ?_)
          clear hK K
          refine norm_ (a' := ?_) ?_ ?_
          rotate_left
          · show Act.put _ (some 33) _ = _
            simp only [Act.put, List.setIfInBounds_toArray, List.set_cons_zero, List.set_cons_succ, i64_w, i32_w]
            rfl
          refine pure_ (i := 12) (N := some 34) (v := ?_) (a' := ?_) #[true, true, true, true, true, true, true, true, true, true, true, true, true, false, false, false, false, false, false] rfl rfl (any_of HT_.out (by kernel_rfl)) (fun _ _ _ h => h) (Or.inl ⟨by rfl, ?_⟩) ?_ ?_
          rotate_left
          · intro w'
            go_simp
            with_reducible rfl
          rotate_left
          · simp only [Act.put, List.setIfInBounds_toArray, List.set_cons_zero, List.set_cons_succ, i64_w, i32_w]
            rfl
          refine one_ (i := 13) (N := some 35) #[true, true, true, true, true, true, true, true, true, true, true, true, true, true, false, false, false, false, false] rfl rfl (one_of HT_.out (by kernel_rfl)) (by decide) (fun K hK => ?_)
          refine Kd.R_lit_step (Kd.int .i64) _ 3 ?hg (N := 35) ?hd (xs := ([0, 0, t125, Go.bits .or .i64 t128 t131] : List Int)) (inner := [.int .i64 0, .int .i64 0, .int .i64 t125, .int .i64 (Go.bits .or .i64 t128 t131)]) (ok := fun _ => True) (okp := fun _ => True) ?hr ?hp (fun _ hk => hk) trivial (Below.refl _ _) (Nat.le_refl _) (by simp) ?_; (case hd => rfl); (case hg => rfl); (case hr => first | (go_simp; done) | (go_simp; rfl)); (case hp => exact (Reps.one (show Kd.M (Kd.int .i64) _ _ _ 0 [.int .i64 0] from rfl) (Reps.one (show Kd.M (Kd.int .i64) _ _ _ 0 [.int .i64 0] from rfl) (Reps.one (show Kd.M (Kd.int .i64) _ _ _ t125 [.int .i64 t125] from rfl) (Reps.one (show Kd.M (Kd.int .i64) _ _ _ (Go.bits .or .i64 t128 t131) [.int .i64 (Go.bits .or .i64 t128 t131)] from rfl) (Reps.none _ _))))))
          intro v133 w35 ho36 hb hg_ hnew_
          clear hg_ hnew_
          (first | rw [← Ny132.out] at ho36 | (simp only [Int.reduceToNat] at ho36; rw [← Ny132.out] at ho36))
          have n0_ := Aside0.mk (Kd.Q_elder' (by (with_reducible repeat (first | apply Kd.Q_alloc | apply Kd.Q_drewN | apply Kd.Q_drew)); exact HO_121003.out) (Kd.R_base ho36) hb)
          have n1_ := Aside0.mk (Kd.R_lower (Kd.R_new' ho36 (Kd.Q_lt (by (with_reducible repeat (first | apply Kd.Q_alloc | apply Kd.Q_drewN | apply Kd.Q_drew)); exact HO_121003.out))) (keep_size (w := w) (g := g) (row := none) (by repeat (first | (with_reducible first | exact HK.out | apply KeepBut.set_ | apply keep_drewN | apply keep_drew | apply keep_alloc | refine keep_far ?_ GW113.out _ | refine keep_far ?_ GW120.out _) | exact HK.out))))
          have n2_ := Aside0.mk (blk_below (g := gb113) (o := .cells #[.int .i64 0, .int .i64 0, .int .i64 0, .slice none 0 0] 40 (0, 0)) (by (with_reducible repeat (first | refine blk_drewN ?_ _ | refine blk_drew ?_ | refine blk_alloc ?_ _)); exact BK113.out) hb)
          have n3_ := Aside0.mk (blk_below (g := gb120) (o := .cells #[.int .i64 t114, .int .i64 (wrap64 (t114 + t121)), .int .i64 (Go.bits .or .i64 t116 t118), .slice Ao30 x121003_1.length co30] 40 (0, 0)) (by (with_reducible repeat (first | refine blk_drewN ?_ _ | refine blk_drew ?_ | refine blk_alloc ?_ _)); exact BK120.out) hb)
          have n4_ := Aside0.mk (IsS82.below (by repeat (first | (with_reducible first | exact HI0.out | apply IsS82.alloc | apply IsS82.drewN | apply IsS82.drew | apply IsS82.set_1 | refine IsS82.far ?_ NB0_113.out _ | refine IsS82.far ?_ NB0_120.out _) | exact HI0.out)) hb)
          have n5_ := Aside0.mk (KeepBut.trans (by repeat (first | (with_reducible first | exact HK.out | apply KeepBut.set_ | apply keep_drewN | apply keep_drew | apply keep_alloc | refine keep_far ?_ GW113.out _ | refine keep_far ?_ GW120.out _) | exact HK.out)) (KeepBut.of_below hb g none) (.inl rfl))
          have n6_ := Aside0.mk (below_step (by repeat (first | (with_reducible first | exact HB.out | apply below_alloc | apply pw_below_drewN | apply below_drew1 | refine below_set ?_ (IsS82.ge HI0.out) | refine below_set ?_ GE113.out | refine below_set ?_ GE120.out) | exact HB.out)) hb)
          clear HO_121003
          clear BK113
          clear BK120
          clear HI0
          clear HK
          clear HB
          have HO_121003 := n0_
          have HO134 := n1_
          have BK113 := n2_
          have BK120 := n3_
          have HI0 := n4_
          have HK := n5_
          have HB := n6_
          clear n0_ n1_ n2_ n3_ n4_ n5_ n6_
          clear hb ho36
          obtain ⟨Ao37, co37, eo37⟩ := Kd.R_slice HO134.out
          (first | subst eo37 | (injection eo37 with f1_ f2_ f3_; have f4_ := f1_.symm; have f5_ := f3_.symm; clear f1_ f2_ f3_; subst f4_; subst f5_))
          refine hK.out _ _ ⟨(blk_cell BK120.out 0).trans rfl, (blk_cell BK120.out 1).trans rfl, (blk_cell BK120.out 2).trans rfl, (blk_cell BK120.out 3).trans rfl⟩ (fun hHeld => ?_)
          clear hK K
          refine norm_ (a' := ?_) ?_ ?_
          rotate_left
          · show Act.put _ (some 35) _ = _
            simp only [Act.put, List.setIfInBounds_toArray, List.set_cons_zero, List.set_cons_succ, i64_w, i32_w]
            rfl
          refine one_ (i := 14) (N := some 36) #[true, true, true, true, true, true, true, true, true, true, true, true, true, true, true, false, false, false, false] rfl rfl (one_of HT_.out (by kernel_rfl)) (by decide) (fun K hK => ?_)
          refine goes_ Try.func62 (by kernel_rfl) rfl #[.pointer (some ⟨g, 0, none⟩), .slice Ao37 y132.length co37] (by rfl) rfl rfl (by (try simp only [List.map_toArray, List.map_cons, List.map_nil]); first | done | rfl | (simp only [List.length_drop, List.length_take]; rfl)) ?_
          with_reducible refine (spec_reader_one.calls k1 g s0_0 t130 _ _ y132 t135 t136 w0 _ ?side1 ?side2 ?side3 ?side4 ?side5 A25.out).mono ?_
          (case side1 => repeat (first | (with_reducible first | exact HI0.out | apply IsS82.alloc | apply IsS82.drewN | apply IsS82.drew | apply IsS82.set_1 | refine IsS82.far ?_ NB0_113.out _ | refine IsS82.far ?_ NB0_120.out _) | exact HI0.out))
          (case side2 => repeat (first | (with_reducible first | exact HB.out | apply below_alloc | apply pw_below_drewN | apply below_drew1 | refine below_set ?_ (IsS82.ge HI0.out) | refine below_set ?_ GE113.out | refine below_set ?_ GE120.out) | exact HB.out))
          (case side3 => repeat (first | exact (Kd.R_reads' HO134.out).2.2 | (with_reducible refine Kd.C_alloc ?_ _) | (with_reducible refine Kd.C_drewN ?_ _) | (with_reducible refine Kd.C_drew ?_)))
          (case side4 => exact (Kd.R_reads' HO134.out).2.1)
          (case side5 => exact far_slice (IsS82.own_ne HI0.out HO134.out (by decide)))
          rintro e w38 ⟨rfl, hi, hb, hk⟩
          refine ⟨_, rfl, ?_⟩
          have n0_ := Aside0.mk (Kd.Q_mono (Kd.Q_keep (IsS82.apartQ (show IsS82 w0 _ g s0_0 t130 from by repeat (first | (with_reducible first | exact HI0.out | apply IsS82.alloc | apply IsS82.drewN | apply IsS82.drew | apply IsS82.set_1 | refine IsS82.far ?_ NB0_113.out _ | refine IsS82.far ?_ NB0_120.out _) | exact HI0.out)) (by (with_reducible repeat (first | apply Kd.Q_alloc | apply Kd.Q_drewN | apply Kd.Q_drew)); exact HO_121003.out) (by decide)) hk (fun _ h => h.2)) (fun _ h => h.1))
          have n1_ := Aside0.mk (KeepBut.blk hk (g' := gb113) (o := .cells #[.int .i64 0, .int .i64 0, .int .i64 0, .slice none 0 0] 40 (0, 0)) (by (with_reducible repeat (first | refine blk_drewN ?_ _ | refine blk_drew ?_ | refine blk_alloc ?_ _)); exact BK113.out) NB113_0.out (by simp))
          have n2_ := Aside0.mk (KeepBut.blk hk (g' := gb120) (o := .cells #[.int .i64 t114, .int .i64 (wrap64 (t114 + t121)), .int .i64 (Go.bits .or .i64 t116 t118), .slice Ao30 x121003_1.length co30] 40 (0, 0)) (by (with_reducible repeat (first | refine blk_drewN ?_ _ | refine blk_drew ?_ | refine blk_alloc ?_ _)); exact BK120.out) NB120_0.out (by simp))
          have n3_ := Aside0.mk (Kd.R_mono (Kd.R_keep (IsS82.apart (show IsS82 w0 _ g s0_0 t130 from by repeat (first | (with_reducible first | exact HI0.out | apply IsS82.alloc | apply IsS82.drewN | apply IsS82.drew | apply IsS82.set_1 | refine IsS82.far ?_ NB0_113.out _ | refine IsS82.far ?_ NB0_120.out _) | exact HI0.out)) (by (with_reducible repeat (first | apply Kd.R_alloc | apply Kd.R_drewN | apply Kd.R_drew)); exact HO134.out) (by decide)) hk (fun _ h => h.2)) (fun _ h => h.1))
          have n4_ := Aside0.mk (KeepBut.trans (by repeat (first | (with_reducible first | exact HK.out | apply KeepBut.set_ | apply keep_drewN | apply keep_drew | apply keep_alloc | refine keep_far ?_ GW113.out _ | refine keep_far ?_ GW120.out _) | exact HK.out)) hk (.inl rfl))
          have n5_ := Aside0.mk (hb)
          have n6_ := Aside0.mk (hi)
          clear HO_121003
          clear BK113
          clear BK120
          clear HO134
          clear HK
          clear HB
          clear HI0
          have HO_121003 := n0_
          have BK113 := n1_
          have BK120 := n2_
          have HO134 := n3_
          have HK := n4_
          have HB := n5_
          have HI0 := n6_
          clear n0_ n1_ n2_ n3_ n4_ n5_ n6_
          (try clear hb)
          (try clear hb2)
          (try clear hk)
          (try clear hi)
          refine hK.out _ _ ⟨(blk_cell BK120.out 0).trans rfl, (blk_cell BK120.out 1).trans rfl, (blk_cell BK120.out 2).trans rfl, (blk_cell BK120.out 3).trans rfl⟩ (fun hHeld => ?_)
          clear hK K
          refine norm_ (a' := ?_) ?_ ?_
          rotate_left
          · show Act.put _ (some 36) _ = _
            simp only [Act.put, List.setIfInBounds_toArray, List.set_cons_zero, List.set_cons_succ, i64_w, i32_w]
            rfl
          refine one_ (i := 15) (N := some 37) #[true, true, true, true, true, true, true, true, true, true, true, true, true, true, true, true, false, false, false] rfl rfl (one_of HT_.out (by kernel_rfl)) (by decide) (fun K hK => ?_)
          refine value_ (w1 := ?_) (v := ?_) (by rfl) rfl ?_ ?_
          rotate_left 2
          · go_simp
            constructor
            · rfl
            · rfl
          refine hK.out _ _ ⟨(blk_cell (blk_alloc BK120.out _) 0).trans rfl, (blk_cell (blk_alloc BK120.out _) 1).trans rfl, (blk_cell (blk_alloc BK120.out _) 2).trans rfl, (blk_cell (blk_alloc BK120.out _) 3).trans rfl⟩ (fun hHeld => ?_)
          clear hK K
          refine norm_ (a' := ?_) ?_ ?_
          rotate_left
          · show Act.put _ (some 37) _ = _
            simp only [Act.put, List.setIfInBounds_toArray, List.set_cons_zero, List.set_cons_succ, i64_w, i32_w]
            rfl
          refine one_ (i := 16) (N := some 38) #[true, true, true, true, true, true, true, true, true, true, true, true, true, true, true, true, true, false, false] rfl rfl (one_of HT_.out (by kernel_rfl)) (by decide) (fun K hK => ?_)
          refine Kd.Q_append_step (Kd.int .i64) w.heap.size (by rfl) (.tmp 23) (.tmp 37) 22 3 (.int .i64 0) 8 rfl Try.underlying22 info3 rfl (by decide) (by omega) (.slice Ao30 x121003_1.length co30) x121003_1 t135 [.int .i64 t135] (fun k_ => some k_ ≠ (.slice Ao37 y132.length co37 : Value).ownBlock) (fun _ => False) rfl rfl ?aP (fun _ hk => hk.elim) ?aF ?aO (Below.refl _ _) ?aS ?aL ?_
          (case aP => exact rfl)
          (case aF => exact (fun k_ hk => Kd.fresh' (Kd.R_lt (by (with_reducible repeat (first | apply Kd.R_alloc | apply Kd.R_drewN | apply Kd.R_drew)); exact HO134.out)) k_ hk))
          (case aO => exact (by (with_reducible repeat (first | apply Kd.Q_alloc | apply Kd.Q_drewN | apply Kd.Q_drew)); exact Kd.Q_mono HO_121003.out (fun _ hk => hk.2)))
          (case aS => exact (keep_size (w := w) (g := g) (row := none) (by repeat (first | (with_reducible first | exact HK.out | apply KeepBut.set_ | apply keep_drewN | apply keep_drew | apply keep_alloc | refine keep_far ?_ GW113.out _ | refine keep_far ?_ GW120.out _) | exact HK.out))))
          (case aL => have := LMc26.out; omega)
          intro v138 w39 ho hb hg hat
          rw [← Ny137.out] at ho
          have n0_ := Aside0.mk (blk_grown (g := gb113) (o := .cells #[.int .i64 0, .int .i64 0, .int .i64 0, .slice none 0 0] 40 (0, 0)) (by (with_reducible repeat (first | refine blk_drewN ?_ _ | refine blk_drew ?_ | refine blk_alloc ?_ _)); exact BK113.out) hg (Kd.Q_ne HO_121003.out BK113.out (by decide)))
          have n1_ := Aside0.mk (blk_grown (g := gb120) (o := .cells #[.int .i64 t114, .int .i64 (wrap64 (t114 + t121)), .int .i64 (Go.bits .or .i64 t116 t118), .slice Ao30 x121003_1.length co30] 40 (0, 0)) (by (with_reducible repeat (first | refine blk_drewN ?_ _ | refine blk_drew ?_ | refine blk_alloc ?_ _)); exact BK120.out) hg (Kd.Q_ne HO_121003.out BK120.out (by decide)))
          have n2_ := Aside0.mk (IsS82.grown (by repeat (first | (with_reducible first | exact HI0.out | apply IsS82.alloc | apply IsS82.drewN | apply IsS82.drew | apply IsS82.set_1 | refine IsS82.far ?_ NB0_113.out _ | refine IsS82.far ?_ NB0_120.out _) | exact HI0.out)) hg (IsS82.own_neQ HI0.out HO_121003.out (by decide)))
          have n3_ := Aside0.mk (Kd.R_after (ok := (fun _ => True)) (by (with_reducible repeat (first | apply Kd.R_alloc | apply Kd.R_drewN | apply Kd.R_drew)); exact HO134.out) hg hat)
          have n4_ := Aside0.mk (below_weaken (by repeat (first | (with_reducible first | exact HB.out | apply below_alloc | apply pw_below_drewN | apply below_drew1 | refine below_set ?_ (IsS82.ge HI0.out) | refine below_set ?_ GE113.out | refine below_set ?_ GE120.out) | exact HB.out)) HL.out hb)
          have n5_ := Aside0.mk (KeepBut.trans (by repeat (first | (with_reducible first | exact HK.out | apply KeepBut.set_ | apply keep_drewN | apply keep_drew | apply keep_alloc | refine keep_far ?_ GW113.out _ | refine keep_far ?_ GW120.out _) | exact HK.out)) (KeepBut.of_grown hg g) (Kd.Q_base2 HO_121003.out))
          have n6_ := Aside0.mk (ho)
          clear BK113
          clear BK120
          clear HI0
          clear HO134
          clear HB
          clear HK
          clear HO_121003
          have BK113 := n0_
          have BK120 := n1_
          have HI0 := n2_
          have HO134 := n3_
          have HB := n4_
          have HK := n5_
          have HO139 := n6_
          clear n0_ n1_ n2_ n3_ n4_ n5_ n6_
          clear ho hb hg hat
          obtain ⟨Ao40, co40, eo40, _⟩ := Kd.Q_slice HO139.out
          (first | subst eo40 | (injection eo40 with f1_ f2_ f3_; have f4_ := f1_.symm; have f5_ := f3_.symm; clear f1_ f2_ f3_; subst f4_; subst f5_))
          refine hK.out _ _ ⟨(blk_cell BK120.out 0).trans rfl, (blk_cell BK120.out 1).trans rfl, (blk_cell BK120.out 2).trans rfl, (blk_cell BK120.out 3).trans rfl⟩ (fun hHeld => ?_)
          clear hK K
          refine norm_ (a' := ?_) ?_ ?_
          rotate_left
          · show Act.put _ (some 38) _ = _
            simp only [Act.put, List.setIfInBounds_toArray, List.set_cons_zero, List.set_cons_succ, i64_w, i32_w]
            rfl
          refine pure_ (i := 17) (N := some 39) (v := ?_) (a' := ?_) #[true, true, true, true, true, true, true, true, true, true, true, true, true, true, true, true, true, true, false] rfl rfl (any_of HT_.out (by kernel_rfl)) (fun _ _ _ h => h) (Or.inl ⟨by rfl, ?_⟩) ?_ ?_
          rotate_left
          · intro w'
            go_simp
            with_reducible rfl
          rotate_left
          · simp only [Act.put, List.setIfInBounds_toArray, List.set_cons_zero, List.set_cons_succ, i64_w, i32_w]
            rfl
          refine last_ (i := 18) (N := none) #[true, true, true, true, true, true, true, true, true, true, true, true, true, true, true, true, true, true, true] rfl rfl (one_of HT_.out (by kernel_rfl)) (by decide) (fun K hK => ?_)
          have hs41 : w39.cell? ⟨gb120, 3, none⟩ = some (.slice Ao30 x121003_1.length co30) := (blk_cell BK120.out 3).trans rfl
          have hfs41 := blk_frozen BK120.out 3
          have hns41_0 := NB113_120.out
          have hms41_0 := NB120_113.out
          refine skip_ (w1 := ?_) (by rfl) rfl ?_ ?_
          rotate_left
          · go_simp
            rfl
          refine hK.out _ _ ?_
          clear hK K
          refine done_ (done_of HT_.out (by kernel_rfl)) ?_
          try go_wp2
          go_roundg k1
          case measure => have := HK1.out; omega
          case rel => exact ⟨(t136), (y137), (.slice Ao40 y137.length co40), H', ⟨by have := HK1.out; omega⟩, ⟨by (with_reducible repeat (first | apply Kd.Q_alloc | apply Kd.Q_drewN | apply Kd.Q_drew)); exact Kd.Q_mono (Kd.Q_far (p := ⟨gb120, 3, none⟩) (Kd.Q_types HO139.out BK120.out (by decide)) (fun _ hk => hk.2) (.slice Ao40 y137.length co40)) (fun _ hk => trivial)⟩, ⟨by (with_reducible repeat (first | refine blk_drewN ?_ _ | refine blk_drew ?_ | refine blk_alloc ?_ _)); refine blk_far ?_ NB113_120.out _; (with_reducible repeat (first | refine blk_drewN ?_ _ | refine blk_drew ?_ | refine blk_alloc ?_ _)); exact BK113.out⟩, ⟨by (with_reducible repeat (first | refine blk_drewN ?_ _ | refine blk_drew ?_ | refine blk_alloc ?_ _)); refine blk_put (cs := #[.int .i64 t114, .int .i64 (wrap64 (t114 + t121)), .int .i64 (Go.bits .or .i64 t116 t118), .slice Ao30 x121003_1.length co30]) ?_ 3 _ rfl; (with_reducible repeat (first | refine blk_drewN ?_ _ | refine blk_drew ?_ | refine blk_alloc ?_ _)); exact BK120.out⟩, ⟨by repeat (first | (with_reducible first | exact HI0.out | apply IsS82.alloc | apply IsS82.drewN | apply IsS82.drew | apply IsS82.set_1 | refine IsS82.far ?_ NB0_113.out _ | refine IsS82.far ?_ NB0_120.out _) | exact HI0.out)⟩, ⟨by repeat (first | (with_reducible first | exact HK.out | apply KeepBut.set_ | apply keep_drewN | apply keep_drew | apply keep_alloc | refine keep_far ?_ GW113.out _ | refine keep_far ?_ GW120.out _) | exact HK.out)⟩, ⟨by repeat (first | (with_reducible first | exact HB.out | apply below_alloc | apply pw_below_drewN | apply below_drew1 | refine below_set ?_ (IsS82.ge HI0.out) | refine below_set ?_ GE113.out | refine below_set ?_ GE120.out) | exact HB.out)⟩⟩
        · rw [if_neg c26] at H
          exact absurd H (by simp)
      · rw [if_neg c18] at H
        have c18b0 : decide ((x121003_1.length : Int) < 5) = false := decide_eq_false c18
        have c18b1 : decide (x121003_1.length < 5) = false := decide_eq_false (by omega)
        clear c18
        replace H := Option.bind_eq_some_iff.mp H
        obtain ⟨⟨t140, t141⟩, A420, H⟩ := H
        replace H : (if t140 = 0 then ((spec_reader_one.f k1 s0_0 t141 (([wrap64 (t114 - 1), 21] : List Int))).bind fun bt145 => (some (t114, bt145.1, (Go.bits .or .i64 t116 t118), x121003_1, bt145.2))) else (if t140 = 1 then (if 1 ≤ (x121003_1.length : Int) then (some (t114, (wrap64 (t114 + t121)), (Go.bits .or .i64 t116 t118), (x121003_1.drop (1 : Int).toNat), t141)) else (none)) else (if t140 = 2 then (some (t114, (wrap64 (t114 + t121)), 32, x121003_1, t141)) else (some (t114, (wrap64 (t114 + t121)), (Go.bits .or .i64 t116 t118), x121003_1, t141))))) = some (r1, r2, r3, r4, r5) := H
        have A42 := Aside0.mk A420
        clear A420
        by_cases c43 : t140 = 0
        · rw [if_pos c43] at H
          have c43b0 : (t140 == 0) = true := beq_iff_eq.mpr c43
          have c43b1 : (t140 != 0) = false := bne_eq_false_iff_eq.mpr c43
          clear c43
          obtain ⟨y142, hy142⟩ : ∃ y_ : List Int, y_ = (([wrap64 (t114 - 1), 21] : List Int)) := ⟨_, rfl⟩
          replace H : ((spec_reader_one.f k1 s0_0 t141 y142).bind fun bt145 => (some (t114, bt145.1, (Go.bits .or .i64 t116 t118), x121003_1, bt145.2))) = some (r1, r2, r3, r4, r5) := by first | (rw [hy142]; with_reducible exact H) | (have H2_ := (Option.bind_some _ _).symm.trans H; rw [hy142]; with_reducible exact H2_) | (have H2_ := (Option.bind_some _ _).symm.trans H; with_reducible exact H2_) | with_reducible exact H | (rw [hy142]; exact H) | exact H
          have Ny142 := Aside0.mk hy142
          clear hy142
          replace H := Option.bind_eq_some_iff.mp H
          obtain ⟨⟨t145, t146⟩, A440, H⟩ := H
          replace H : (some (t114, t145, (Go.bits .or .i64 t116 t118), x121003_1, t146)) = some (r1, r2, r3, r4, r5) := H
          have A44 := Aside0.mk A440
          clear A440
          simp only [Option.some.injEq, Prod.mk.injEq] at H
          obtain ⟨rfl, rfl, rfl, rfl, rfl⟩ := H
          have hnb45 := NB120_113.out
          have hnc45 := NB113_120.out
          have hnb46 := NB120_0.out
          have hnc46 := NB0_120.out
          have hcz47_0 : wr.cell? ⟨gb120, 0, none⟩ = some (.int .i64 t114) := (blk_cell BK120.out 0).trans rfl
          have hcz47_1 : wr.cell? ⟨gb120, 1, none⟩ = some (.int .i64 (wrap64 (t114 + t121))) := (blk_cell BK120.out 1).trans rfl
          have hcz47_2 : wr.cell? ⟨gb120, 2, none⟩ = some (.int .i64 (Go.bits .or .i64 t116 t118)) := (blk_cell BK120.out 2).trans rfl
          have hcz47_3 : wr.cell? ⟨gb120, 3, none⟩ = some (u121003) := (blk_cell BK120.out 3).trans rfl
          have hfz47_0 := blk_frozen BK120.out 0
          have hfz47_1 := blk_frozen BK120.out 1
          have hfz47_2 := blk_frozen BK120.out 2
          have hfz47_3 := blk_frozen BK120.out 3
          obtain ⟨Ao48, co48, eo48, _⟩ := Kd.Q_slice HO_121003.out
          subst eo48
          go_wp2_with (first | ((with_reducible refine gate_callee (f := 63) rfl ?_); refine goesL_ (some 41) rfl rfl Try.func63 (by kernel_rfl) rfl #[.pointer (some ⟨g, 0, none⟩), .int .i64 30] rfl (by (try simp only [List.map_toArray, List.map_cons, List.map_nil]); first | done | rfl | (simp only [List.length_drop, List.length_take]; rfl)) ?_; (with_reducible refine (spec_reader_pick.calls k1 g s0_0 x1001_1 30 t140 t141 w0 _ ?side1 ?side2 A42.out).mono ?_); (case side1 => repeat (first | (with_reducible first | exact HI0.out | apply IsS82.alloc | apply IsS82.drewN | apply IsS82.drew | apply IsS82.set_1 | refine IsS82.far ?_ NB0_113.out _ | refine IsS82.far ?_ NB0_120.out _) | exact HI0.out)); (case side2 => repeat (first | (with_reducible first | exact HB.out | apply below_alloc | apply pw_below_drewN | apply below_drew1 | refine below_set ?_ (IsS82.ge HI0.out) | refine below_set ?_ GE113.out | refine below_set ?_ GE120.out) | exact HB.out)); rintro e w49 ⟨rfl, hi, hb, hk⟩; refine ⟨_, rfl, ?_⟩; have n0_ := Aside0.mk (Kd.Q_mono (Kd.Q_keep (IsS82.apartQ (show IsS82 w0 _ g s0_0 x1001_1 from by repeat (first | (with_reducible first | exact HI0.out | apply IsS82.alloc | apply IsS82.drewN | apply IsS82.drew | apply IsS82.set_1 | refine IsS82.far ?_ NB0_113.out _ | refine IsS82.far ?_ NB0_120.out _) | exact HI0.out)) (by (with_reducible repeat (first | apply Kd.Q_alloc | apply Kd.Q_drewN | apply Kd.Q_drew)); exact HO_121003.out) (by decide)) hk (fun _ h => h.2)) (fun _ h => h.1)); have n1_ := Aside0.mk (KeepBut.blk hk (g' := gb113) (o := .cells #[.int .i64 0, .int .i64 0, .int .i64 0, .slice none 0 0] 40 (0, 0)) (by (with_reducible repeat (first | refine blk_drewN ?_ _ | refine blk_drew ?_ | refine blk_alloc ?_ _)); exact BK113.out) NB113_0.out (by simp)); have n2_ := Aside0.mk (KeepBut.blk hk (g' := gb120) (o := .cells #[.int .i64 t114, .int .i64 (wrap64 (t114 + t121)), .int .i64 (Go.bits .or .i64 t116 t118), .slice Ao48 x121003_1.length co48] 40 (0, 0)) (by (with_reducible repeat (first | refine blk_drewN ?_ _ | refine blk_drew ?_ | refine blk_alloc ?_ _)); exact BK120.out) NB120_0.out (by simp)); have n3_ := Aside0.mk (KeepBut.trans (by repeat (first | (with_reducible first | exact HK.out | apply KeepBut.set_ | apply keep_drewN | apply keep_drew | apply keep_alloc | refine keep_far ?_ GW113.out _ | refine keep_far ?_ GW120.out _) | exact HK.out)) hk (.inl rfl)); have n4_ := Aside0.mk (hb); have n5_ := Aside0.mk (hi); clear HO_121003; clear BK113; clear BK120; clear HK; clear HB; clear HI0; have HO_121003 := n0_; have BK113 := n1_; have BK120 := n2_; have HK := n3_; have HB := n4_; have HI0 := n5_; clear n0_ n1_ n2_ n3_ n4_ n5_; (try clear hb); (try clear hb2); (try clear hk); (try clear hi); have hcz50_0 : w49.cell? ⟨gb120, 0, none⟩ = some (.int .i64 t114) := (blk_cell BK120.out 0).trans rfl; have hcz50_1 : w49.cell? ⟨gb120, 1, none⟩ = some (.int .i64 (wrap64 (t114 + t121))) := (blk_cell BK120.out 1).trans rfl; have hcz50_2 : w49.cell? ⟨gb120, 2, none⟩ = some (.int .i64 (Go.bits .or .i64 t116 t118)) := (blk_cell BK120.out 2).trans rfl; have hcz50_3 : w49.cell? ⟨gb120, 3, none⟩ = some (.slice Ao48 x121003_1.length co48) := (blk_cell BK120.out 3).trans rfl; have hfz50_0 := blk_frozen BK120.out 0; have hfz50_1 := blk_frozen BK120.out 1; have hfz50_2 := blk_frozen BK120.out 2; have hfz50_3 := blk_frozen BK120.out 3) | ((with_reducible refine gate_dst (N := 48) rfl ?_); refine Kd.R_lit (Kd.int .i64) _ 3 ?hg (N := 48) ?hd (xs := ([wrap64 (t114 - 1), 21] : List Int)) (inner := [.int .i64 (wrap64 (t114 - 1)), .int .i64 21]) (ok := fun _ => True) (okp := fun _ => True) ?hr ?hp (fun _ hk => hk) trivial (Below.refl _ _) (Nat.le_refl _) (by simp) ?_; (case hd => rfl); (case hg => rfl); (case hr => first | (go_simp; done) | (go_simp; rfl)); (case hp => exact (Reps.one (show Kd.M (Kd.int .i64) _ _ _ (wrap64 (t114 - 1)) [.int .i64 (wrap64 (t114 - 1))] from rfl) (Reps.one (show Kd.M (Kd.int .i64) _ _ _ 21 [.int .i64 21] from rfl) (Reps.none _ _)))); intro v143 w51 ho52 hb hg_ hnew_; clear hg_ hnew_; (first | rw [← Ny142.out] at ho52 | (simp only [Int.reduceToNat] at ho52; rw [← Ny142.out] at ho52)); have n0_ := Aside0.mk (Kd.Q_elder' (by (with_reducible repeat (first | apply Kd.Q_alloc | apply Kd.Q_drewN | apply Kd.Q_drew)); exact HO_121003.out) (Kd.R_base ho52) hb); have n1_ := Aside0.mk (Kd.R_lower (Kd.R_new' ho52 (Kd.Q_lt (by (with_reducible repeat (first | apply Kd.Q_alloc | apply Kd.Q_drewN | apply Kd.Q_drew)); exact HO_121003.out))) (keep_size (w := w) (g := g) (row := none) (by repeat (first | (with_reducible first | exact HK.out | apply KeepBut.set_ | apply keep_drewN | apply keep_drew | apply keep_alloc | refine keep_far ?_ GW113.out _ | refine keep_far ?_ GW120.out _) | exact HK.out)))); have n2_ := Aside0.mk (blk_below (g := gb113) (o := .cells #[.int .i64 0, .int .i64 0, .int .i64 0, .slice none 0 0] 40 (0, 0)) (by (with_reducible repeat (first | refine blk_drewN ?_ _ | refine blk_drew ?_ | refine blk_alloc ?_ _)); exact BK113.out) hb); have n3_ := Aside0.mk (blk_below (g := gb120) (o := .cells #[.int .i64 t114, .int .i64 (wrap64 (t114 + t121)), .int .i64 (Go.bits .or .i64 t116 t118), .slice Ao48 x121003_1.length co48] 40 (0, 0)) (by (with_reducible repeat (first | refine blk_drewN ?_ _ | refine blk_drew ?_ | refine blk_alloc ?_ _)); exact BK120.out) hb); have n4_ := Aside0.mk (IsS82.below (by repeat (first | (with_reducible first | exact HI0.out | apply IsS82.alloc | apply IsS82.drewN | apply IsS82.drew | apply IsS82.set_1 | refine IsS82.far ?_ NB0_113.out _ | refine IsS82.far ?_ NB0_120.out _) | exact HI0.out)) hb); have n5_ := Aside0.mk (KeepBut.trans (by repeat (first | (with_reducible first | exact HK.out | apply KeepBut.set_ | apply keep_drewN | apply keep_drew | apply keep_alloc | refine keep_far ?_ GW113.out _ | refine keep_far ?_ GW120.out _) | exact HK.out)) (KeepBut.of_below hb g none) (.inl rfl)); have n6_ := Aside0.mk (below_step (by repeat (first | (with_reducible first | exact HB.out | apply below_alloc | apply pw_below_drewN | apply below_drew1 | refine below_set ?_ (IsS82.ge HI0.out) | refine below_set ?_ GE113.out | refine below_set ?_ GE120.out) | exact HB.out)) hb); clear HO_121003; clear BK113; clear BK120; clear HI0; clear HK; clear HB; have HO_121003 := n0_; have HO144 := n1_; have BK113 := n2_; have BK120 := n3_; have HI0 := n4_; have HK := n5_; have HB := n6_; clear n0_ n1_ n2_ n3_ n4_ n5_ n6_; clear hb ho52; obtain ⟨Ao53, co53, eo53⟩ := Kd.R_slice HO144.out; subst eo53) | ((with_reducible refine gate_callee (f := 62) rfl ?_); refine goesL_ (some 49) rfl rfl Try.func62 (by kernel_rfl) rfl #[.pointer (some ⟨g, 0, none⟩), .slice Ao53 y142.length co53] rfl (by (try simp only [List.map_toArray, List.map_cons, List.map_nil]); first | done | rfl | (simp only [List.length_drop, List.length_take]; rfl)) ?_; (with_reducible refine (spec_reader_one.calls k1 g s0_0 t141 _ _ y142 t145 t146 w0 _ ?side1 ?side2 ?side3 ?side4 ?side5 A44.out).mono ?_); (case side1 => repeat (first | (with_reducible first | exact HI0.out | apply IsS82.alloc | apply IsS82.drewN | apply IsS82.drew | apply IsS82.set_1 | refine IsS82.far ?_ NB0_113.out _ | refine IsS82.far ?_ NB0_120.out _) | exact HI0.out)); (case side2 => repeat (first | (with_reducible first | exact HB.out | apply below_alloc | apply pw_below_drewN | apply below_drew1 | refine below_set ?_ (IsS82.ge HI0.out) | refine below_set ?_ GE113.out | refine below_set ?_ GE120.out) | exact HB.out)); (case side3 => repeat (first | exact (Kd.R_reads' HO144.out).2.2 | (with_reducible refine Kd.C_alloc ?_ _) | (with_reducible refine Kd.C_drewN ?_ _) | (with_reducible refine Kd.C_drew ?_))); (case side4 => exact (Kd.R_reads' HO144.out).2.1); (case side5 => exact far_slice (IsS82.own_ne HI0.out HO144.out (by decide))); rintro e w54 ⟨rfl, hi, hb, hk⟩; refine ⟨_, rfl, ?_⟩; have n0_ := Aside0.mk (Kd.Q_mono (Kd.Q_keep (IsS82.apartQ (show IsS82 w0 _ g s0_0 t141 from by repeat (first | (with_reducible first | exact HI0.out | apply IsS82.alloc | apply IsS82.drewN | apply IsS82.drew | apply IsS82.set_1 | refine IsS82.far ?_ NB0_113.out _ | refine IsS82.far ?_ NB0_120.out _) | exact HI0.out)) (by (with_reducible repeat (first | apply Kd.Q_alloc | apply Kd.Q_drewN | apply Kd.Q_drew)); exact HO_121003.out) (by decide)) hk (fun _ h => h.2)) (fun _ h => h.1)); have n1_ := Aside0.mk (KeepBut.blk hk (g' := gb113) (o := .cells #[.int .i64 0, .int .i64 0, .int .i64 0, .slice none 0 0] 40 (0, 0)) (by (with_reducible repeat (first | refine blk_drewN ?_ _ | refine blk_drew ?_ | refine blk_alloc ?_ _)); exact BK113.out) NB113_0.out (by simp)); have n2_ := Aside0.mk (KeepBut.blk hk (g' := gb120) (o := .cells #[.int .i64 t114, .int .i64 (wrap64 (t114 + t121)), .int .i64 (Go.bits .or .i64 t116 t118), .slice Ao48 x121003_1.length co48] 40 (0, 0)) (by (with_reducible repeat (first | refine blk_drewN ?_ _ | refine blk_drew ?_ | refine blk_alloc ?_ _)); exact BK120.out) NB120_0.out (by simp)); have n3_ := Aside0.mk (Kd.R_mono (Kd.R_keep (IsS82.apart (show IsS82 w0 _ g s0_0 t141 from by repeat (first | (with_reducible first | exact HI0.out | apply IsS82.alloc | apply IsS82.drewN | apply IsS82.drew | apply IsS82.set_1 | refine IsS82.far ?_ NB0_113.out _ | refine IsS82.far ?_ NB0_120.out _) | exact HI0.out)) (by (with_reducible repeat (first | apply Kd.R_alloc | apply Kd.R_drewN | apply Kd.R_drew)); exact HO144.out) (by decide)) hk (fun _ h => h.2)) (fun _ h => h.1)); have n4_ := Aside0.mk (KeepBut.trans (by repeat (first | (with_reducible first | exact HK.out | apply KeepBut.set_ | apply keep_drewN | apply keep_drew | apply keep_alloc | refine keep_far ?_ GW113.out _ | refine keep_far ?_ GW120.out _) | exact HK.out)) hk (.inl rfl)); have n5_ := Aside0.mk (hb); have n6_ := Aside0.mk (hi); clear HO_121003; clear BK113; clear BK120; clear HO144; clear HK; clear HB; clear HI0; have HO_121003 := n0_; have BK113 := n1_; have BK120 := n2_; have HO144 := n3_; have HK := n4_; have HB := n5_; have HI0 := n6_; clear n0_ n1_ n2_ n3_ n4_ n5_ n6_; (try clear hb); (try clear hb2); (try clear hk); (try clear hi); have hcz55_0 : w54.cell? ⟨gb120, 0, none⟩ = some (.int .i64 t114) := (blk_cell BK120.out 0).trans rfl; have hcz55_1 : w54.cell? ⟨gb120, 1, none⟩ = some (.int .i64 (wrap64 (t114 + t121))) := (blk_cell BK120.out 1).trans rfl; have hcz55_2 : w54.cell? ⟨gb120, 2, none⟩ = some (.int .i64 (Go.bits .or .i64 t116 t118)) := (blk_cell BK120.out 2).trans rfl; have hcz55_3 : w54.cell? ⟨gb120, 3, none⟩ = some (.slice Ao48 x121003_1.length co48) := (blk_cell BK120.out 3).trans rfl; have hfz55_0 := blk_frozen BK120.out 0; have hfz55_1 := blk_frozen BK120.out 1; have hfz55_2 := blk_frozen BK120.out 2; have hfz55_3 := blk_frozen BK120.out 3; have hnb56 := NB113_0.out; have hnc56 := NB0_113.out; have hcz57_0 : w54.cell? ⟨gb113, 0, none⟩ = some (.int .i64 0) := (blk_cell BK113.out 0).trans rfl; have hcz57_1 : w54.cell? ⟨gb113, 1, none⟩ = some (.int .i64 0) := (blk_cell BK113.out 1).trans rfl; have hcz57_2 : w54.cell? ⟨gb113, 2, none⟩ = some (.int .i64 0) := (blk_cell BK113.out 2).trans rfl; have hcz57_3 : w54.cell? ⟨gb113, 3, none⟩ = some (.slice none 0 0) := (blk_cell BK113.out 3).trans rfl; have hfz57_0 := blk_frozen BK113.out 0; have hfz57_1 := blk_frozen BK113.out 1; have hfz57_2 := blk_frozen BK113.out 2; have hfz57_3 := blk_frozen BK113.out 3))
          refine bodyPost_ret (results_cell_row rfl _ _ gb113 40 #[.int .i64 t114, .int .i64 t145, .int .i64 (Go.bits .or .i64 t116 t118), .slice Ao48 x121003_1.length co48] (0, 0) _ rfl (by (with_reducible repeat (first | refine blk_drewN ?_ _ | refine blk_drew ?_ | refine blk_alloc ?_ _)); refine blk_put (cs := #[.int .i64 t114, .int .i64 t145, .int .i64 (Go.bits .or .i64 t116 t118), .slice none 0 0]) ?_ 3 _ rfl; (with_reducible repeat (first | refine blk_drewN ?_ _ | refine blk_drew ?_ | refine blk_alloc ?_ _)); refine blk_put (cs := #[.int .i64 t114, .int .i64 t145, .int .i64 0, .slice none 0 0]) ?_ 2 _ rfl; (with_reducible repeat (first | refine blk_drewN ?_ _ | refine blk_drew ?_ | refine blk_alloc ?_ _)); refine blk_put (cs := #[.int .i64 t114, .int .i64 0, .int .i64 0, .slice none 0 0]) ?_ 1 _ rfl; (with_reducible repeat (first | refine blk_drewN ?_ _ | refine blk_drew ?_ | refine blk_alloc ?_ _)); refine blk_put (cs := #[.int .i64 0, .int .i64 0, .int .i64 0, .slice none 0 0]) ?_ 0 _ rfl; (with_reducible repeat (first | refine blk_drewN ?_ _ | refine blk_drew ?_ | refine blk_alloc ?_ _)); refine blk_far ?_ NB113_120.out _; (with_reducible repeat (first | refine blk_drewN ?_ _ | refine blk_drew ?_ | refine blk_alloc ?_ _)); exact BK113.out) Try.underlying40 rfl (by kernel_rfl)) rfl ?_
          exact ⟨_, by first | rfl | (simp [errW_none, errW_some] <;> rfl) | (simp [*, errW_none, errW_some] <;> rfl), by (with_reducible repeat (first | apply Kd.Q_alloc | apply Kd.Q_drewN | apply Kd.Q_drew)); exact Kd.Q_mono (Kd.Q_far (p := ⟨gb113, 3, none⟩) (Kd.Q_far (p := ⟨gb113, 2, none⟩) (Kd.Q_far (p := ⟨gb113, 1, none⟩) (Kd.Q_far (p := ⟨gb113, 0, none⟩) (Kd.Q_far (p := ⟨gb120, 1, none⟩) (Kd.Q_types (Kd.Q_types HO_121003.out BK120.out (by decide)) BK113.out (by decide)) (fun _ hk => hk.1.2) (.int .i64 t145)) (fun _ hk => hk.2) (.int .i64 t114)) (fun _ hk => hk.2) (.int .i64 t145)) (fun _ hk => hk.2) (.int .i64 (Go.bits .or .i64 t116 t118))) (fun _ hk => hk.2) (.slice Ao48 x121003_1.length co48)) (fun _ hk => trivial), by repeat (first | (with_reducible first | exact HI0.out | apply IsS82.alloc | apply IsS82.drewN | apply IsS82.drew | apply IsS82.set_1 | refine IsS82.far ?_ NB0_113.out _ | refine IsS82.far ?_ NB0_120.out _) | exact HI0.out), by repeat (first | (with_reducible first | exact HB.out | apply below_alloc | apply pw_below_drewN | apply below_drew1 | refine below_set ?_ (IsS82.ge HI0.out) | refine below_set ?_ GE113.out | refine below_set ?_ GE120.out) | exact HB.out), by repeat (first | (with_reducible first | exact HK.out | apply KeepBut.set_ | apply keep_drewN | apply keep_drew | apply keep_alloc | refine keep_far ?_ GW113.out _ | refine keep_far ?_ GW120.out _) | exact HK.out)⟩
        · rw [if_neg c43] at H
          have c43b0 : (t140 == 0) = false := beq_eq_false_iff_ne.mpr c43
          have c43b1 : (t140 != 0) = true := bne_iff_ne.mpr c43
          by_cases c58 : t140 = 1
          · rw [if_pos c58] at H
            have c58b0 : (t140 == 1) = true := beq_iff_eq.mpr c58
            have c58b1 : (t140 != 1) = false := bne_eq_false_iff_eq.mpr c58
            clear c58
            by_cases c59 : 1 ≤ (x121003_1.length : Int)
            · rw [if_pos c59] at H
              have c59b0 := eq_true c59
              have c59b1 : decide (1 ≤ (x121003_1.length : Int)) = true := decide_eq_true c59
              clear c59
              obtain ⟨y147, hy147⟩ : ∃ y_ : List Int, y_ = (x121003_1.drop (1 : Int).toNat) := ⟨_, rfl⟩
              replace H : (some (t114, (wrap64 (t114 + t121)), (Go.bits .or .i64 t116 t118), y147, t141)) = some (r1, r2, r3, r4, r5) := by first | (rw [hy147]; with_reducible exact H) | (have H2_ := (Option.bind_some _ _).symm.trans H; rw [hy147]; with_reducible exact H2_) | (have H2_ := (Option.bind_some _ _).symm.trans H; with_reducible exact H2_) | with_reducible exact H | (rw [hy147]; exact H) | exact H
              have Ny147 := Aside0.mk hy147
              clear hy147
              simp only [Option.some.injEq, Prod.mk.injEq] at H
              obtain ⟨rfl, rfl, rfl, rfl, rfl⟩ := H
              have hnb60 := NB120_113.out
              have hnc60 := NB113_120.out
              have hnb61 := NB120_0.out
              have hnc61 := NB0_120.out
              have hcz62_0 : wr.cell? ⟨gb120, 0, none⟩ = some (.int .i64 t114) := (blk_cell BK120.out 0).trans rfl
              have hcz62_1 : wr.cell? ⟨gb120, 1, none⟩ = some (.int .i64 (wrap64 (t114 + t121))) := (blk_cell BK120.out 1).trans rfl
              have hcz62_2 : wr.cell? ⟨gb120, 2, none⟩ = some (.int .i64 (Go.bits .or .i64 t116 t118)) := (blk_cell BK120.out 2).trans rfl
              have hcz62_3 : wr.cell? ⟨gb120, 3, none⟩ = some (u121003) := (blk_cell BK120.out 3).trans rfl
              have hfz62_0 := blk_frozen BK120.out 0
              have hfz62_1 := blk_frozen BK120.out 1
              have hfz62_2 := blk_frozen BK120.out 2
              have hfz62_3 := blk_frozen BK120.out 3
              obtain ⟨Ao63, co63, eo63, _⟩ := Kd.Q_slice HO_121003.out
              subst eo63
              go_wp2_with (first | ((with_reducible refine gate_callee (f := 63) rfl ?_); refine goesL_ (some 41) rfl rfl Try.func63 (by kernel_rfl) rfl #[.pointer (some ⟨g, 0, none⟩), .int .i64 30] rfl (by (try simp only [List.map_toArray, List.map_cons, List.map_nil]); first | done | rfl | (simp only [List.length_drop, List.length_take]; rfl)) ?_; (with_reducible refine (spec_reader_pick.calls k1 g s0_0 x1001_1 30 t140 t141 w0 _ ?side1 ?side2 A42.out).mono ?_); (case side1 => repeat (first | (with_reducible first | exact HI0.out | apply IsS82.alloc | apply IsS82.drewN | apply IsS82.drew | apply IsS82.set_1 | refine IsS82.far ?_ NB0_113.out _ | refine IsS82.far ?_ NB0_120.out _) | exact HI0.out)); (case side2 => repeat (first | (with_reducible first | exact HB.out | apply below_alloc | apply pw_below_drewN | apply below_drew1 | refine below_set ?_ (IsS82.ge HI0.out) | refine below_set ?_ GE113.out | refine below_set ?_ GE120.out) | exact HB.out)); rintro e w64 ⟨rfl, hi, hb, hk⟩; refine ⟨_, rfl, ?_⟩; have n0_ := Aside0.mk (Kd.Q_mono (Kd.Q_keep (IsS82.apartQ (show IsS82 w0 _ g s0_0 x1001_1 from by repeat (first | (with_reducible first | exact HI0.out | apply IsS82.alloc | apply IsS82.drewN | apply IsS82.drew | apply IsS82.set_1 | refine IsS82.far ?_ NB0_113.out _ | refine IsS82.far ?_ NB0_120.out _) | exact HI0.out)) (by (with_reducible repeat (first | apply Kd.Q_alloc | apply Kd.Q_drewN | apply Kd.Q_drew)); exact HO_121003.out) (by decide)) hk (fun _ h => h.2)) (fun _ h => h.1)); have n1_ := Aside0.mk (KeepBut.blk hk (g' := gb113) (o := .cells #[.int .i64 0, .int .i64 0, .int .i64 0, .slice none 0 0] 40 (0, 0)) (by (with_reducible repeat (first | refine blk_drewN ?_ _ | refine blk_drew ?_ | refine blk_alloc ?_ _)); exact BK113.out) NB113_0.out (by simp)); have n2_ := Aside0.mk (KeepBut.blk hk (g' := gb120) (o := .cells #[.int .i64 t114, .int .i64 (wrap64 (t114 + t121)), .int .i64 (Go.bits .or .i64 t116 t118), .slice Ao63 x121003_1.length co63] 40 (0, 0)) (by (with_reducible repeat (first | refine blk_drewN ?_ _ | refine blk_drew ?_ | refine blk_alloc ?_ _)); exact BK120.out) NB120_0.out (by simp)); have n3_ := Aside0.mk (KeepBut.trans (by repeat (first | (with_reducible first | exact HK.out | apply KeepBut.set_ | apply keep_drewN | apply keep_drew | apply keep_alloc | refine keep_far ?_ GW113.out _ | refine keep_far ?_ GW120.out _) | exact HK.out)) hk (.inl rfl)); have n4_ := Aside0.mk (hb); have n5_ := Aside0.mk (hi); clear HO_121003; clear BK113; clear BK120; clear HK; clear HB; clear HI0; have HO_121003 := n0_; have BK113 := n1_; have BK120 := n2_; have HK := n3_; have HB := n4_; have HI0 := n5_; clear n0_ n1_ n2_ n3_ n4_ n5_; (try clear hb); (try clear hb2); (try clear hk); (try clear hi); have hcz65_0 : w64.cell? ⟨gb120, 0, none⟩ = some (.int .i64 t114) := (blk_cell BK120.out 0).trans rfl; have hcz65_1 : w64.cell? ⟨gb120, 1, none⟩ = some (.int .i64 (wrap64 (t114 + t121))) := (blk_cell BK120.out 1).trans rfl; have hcz65_2 : w64.cell? ⟨gb120, 2, none⟩ = some (.int .i64 (Go.bits .or .i64 t116 t118)) := (blk_cell BK120.out 2).trans rfl; have hcz65_3 : w64.cell? ⟨gb120, 3, none⟩ = some (.slice Ao63 x121003_1.length co63) := (blk_cell BK120.out 3).trans rfl; have hfz65_0 := blk_frozen BK120.out 0; have hfz65_1 := blk_frozen BK120.out 1; have hfz65_2 := blk_frozen BK120.out 2; have hfz65_3 := blk_frozen BK120.out 3; have q66 : (1 : Int) ≤ ((x121003_1.length : Int) : Int) := of_decide_eq_true (by first | (with_reducible assumption) | assumption); obtain ⟨i066, hi066, _, hsz66, _⟩ := info_parts info3; have hcut66 := cut_from (P := Try.prog) 22 3 .i64 Try.underlying22 hi066 1 hsz66 Ao63 x121003_1.length co63 1 (by omega) q66; have hr66 := Kd.Q_drop (k := (1 : Int).toNat) HO_121003.out (by omega); obtain ⟨A66, hA66⟩ : ∃ A1, A1 = (if co63 = (1 : Int).toNat then Ao63 else (Ao63 : Option Addr).map (·.add ((1 : Int).toNat * 1))) := ⟨_, rfl⟩; obtain ⟨c66, hc66⟩ : ∃ c1, c1 = co63 - (1 : Int).toNat := ⟨_, rfl⟩; have hy66 : y147.length = x121003_1.length - (1 : Int).toNat := (by rw [Ny147.out, List.length_drop]); rw [← Ny147.out] at hr66; rw [← hy66, ← hA66, ← hc66] at hcut66; replace hr66 : Kd.Q (Kd.int .i64) 3 w64 w.heap.size (fun _ => True) (.slice A66 y147.length c66) y147 := (by rw [hA66, hc66, hy66]; exact hr66); have HE66 : Aside0 ((Value.slice A66 y147.length c66).ownBlock = (.slice Ao63 x121003_1.length co63 : Value).ownBlock) := ⟨by rw [hA66]; split <;> (cases (Ao63 : Option Addr) <;> rfl)⟩; clear hy66 hi066 hsz66 HO_121003 hA66 hc66; have HO149 := Aside0.mk hr66; clear hr66; replace q66 := eq_true q66; have hnb67 := NB113_0.out; have hnc67 := NB0_113.out; have hcz68_0 : w64.cell? ⟨gb113, 0, none⟩ = some (.int .i64 0) := (blk_cell BK113.out 0).trans rfl; have hcz68_1 : w64.cell? ⟨gb113, 1, none⟩ = some (.int .i64 0) := (blk_cell BK113.out 1).trans rfl; have hcz68_2 : w64.cell? ⟨gb113, 2, none⟩ = some (.int .i64 0) := (blk_cell BK113.out 2).trans rfl; have hcz68_3 : w64.cell? ⟨gb113, 3, none⟩ = some (.slice none 0 0) := (blk_cell BK113.out 3).trans rfl; have hfz68_0 := blk_frozen BK113.out 0; have hfz68_1 := blk_frozen BK113.out 1; have hfz68_2 := blk_frozen BK113.out 2; have hfz68_3 := blk_frozen BK113.out 3))
              refine bodyPost_ret (results_cell_row rfl _ _ gb113 40 #[.int .i64 t114, .int .i64 (wrap64 (t114 + t121)), .int .i64 (Go.bits .or .i64 t116 t118), .slice A66 y147.length c66] (0, 0) _ rfl (by (with_reducible repeat (first | refine blk_drewN ?_ _ | refine blk_drew ?_ | refine blk_alloc ?_ _)); refine blk_put (cs := #[.int .i64 t114, .int .i64 (wrap64 (t114 + t121)), .int .i64 (Go.bits .or .i64 t116 t118), .slice none 0 0]) ?_ 3 _ rfl; (with_reducible repeat (first | refine blk_drewN ?_ _ | refine blk_drew ?_ | refine blk_alloc ?_ _)); refine blk_put (cs := #[.int .i64 t114, .int .i64 (wrap64 (t114 + t121)), .int .i64 0, .slice none 0 0]) ?_ 2 _ rfl; (with_reducible repeat (first | refine blk_drewN ?_ _ | refine blk_drew ?_ | refine blk_alloc ?_ _)); refine blk_put (cs := #[.int .i64 t114, .int .i64 0, .int .i64 0, .slice none 0 0]) ?_ 1 _ rfl; (with_reducible repeat (first | refine blk_drewN ?_ _ | refine blk_drew ?_ | refine blk_alloc ?_ _)); refine blk_put (cs := #[.int .i64 0, .int .i64 0, .int .i64 0, .slice none 0 0]) ?_ 0 _ rfl; (with_reducible repeat (first | refine blk_drewN ?_ _ | refine blk_drew ?_ | refine blk_alloc ?_ _)); refine blk_far ?_ NB113_120.out _; (with_reducible repeat (first | refine blk_drewN ?_ _ | refine blk_drew ?_ | refine blk_alloc ?_ _)); exact BK113.out) Try.underlying40 rfl (by kernel_rfl)) rfl ?_
              exact ⟨_, by first | rfl | (simp [errW_none, errW_some] <;> rfl) | (simp [*, errW_none, errW_some] <;> rfl), by (with_reducible repeat (first | apply Kd.Q_alloc | apply Kd.Q_drewN | apply Kd.Q_drew)); exact Kd.Q_mono (Kd.Q_far (p := ⟨gb113, 3, none⟩) (Kd.Q_far (p := ⟨gb113, 2, none⟩) (Kd.Q_far (p := ⟨gb113, 1, none⟩) (Kd.Q_far (p := ⟨gb113, 0, none⟩) (Kd.Q_far (p := ⟨gb120, 3, none⟩) (Kd.Q_types (Kd.Q_types HO149.out BK120.out (by decide)) BK113.out (by decide)) (fun _ hk => hk.1.2) (.slice A66 y147.length c66)) (fun _ hk => hk.2) (.int .i64 t114)) (fun _ hk => hk.2) (.int .i64 (wrap64 (t114 + t121)))) (fun _ hk => hk.2) (.int .i64 (Go.bits .or .i64 t116 t118))) (fun _ hk => hk.2) (.slice A66 y147.length c66)) (fun _ hk => trivial), by repeat (first | (with_reducible first | exact HI0.out | apply IsS82.alloc | apply IsS82.drewN | apply IsS82.drew | apply IsS82.set_1 | refine IsS82.far ?_ NB0_113.out _ | refine IsS82.far ?_ NB0_120.out _) | exact HI0.out), by repeat (first | (with_reducible first | exact HB.out | apply below_alloc | apply pw_below_drewN | apply below_drew1 | refine below_set ?_ (IsS82.ge HI0.out) | refine below_set ?_ GE113.out | refine below_set ?_ GE120.out) | exact HB.out), by repeat (first | (with_reducible first | exact HK.out | apply KeepBut.set_ | apply keep_drewN | apply keep_drew | apply keep_alloc | refine keep_far ?_ GW113.out _ | refine keep_far ?_ GW120.out _) | exact HK.out)⟩
            · rw [if_neg c59] at H
              exact absurd H (by simp)
          · rw [if_neg c58] at H
            have c58b0 : (t140 == 1) = false := beq_eq_false_iff_ne.mpr c58
            have c58b1 : (t140 != 1) = true := bne_iff_ne.mpr c58
            by_cases c69 : t140 = 2
            · rw [if_pos c69] at H
              have c69b0 : (t140 == 2) = true := beq_iff_eq.mpr c69
              have c69b1 : (t140 != 2) = false := bne_eq_false_iff_eq.mpr c69
              clear c69
              simp only [Option.some.injEq, Prod.mk.injEq] at H
              obtain ⟨rfl, rfl, rfl, rfl, rfl⟩ := H
              have hnb70 := NB120_113.out
              have hnc70 := NB113_120.out
              have hnb71 := NB120_0.out
              have hnc71 := NB0_120.out
              have hcz72_0 : wr.cell? ⟨gb120, 0, none⟩ = some (.int .i64 t114) := (blk_cell BK120.out 0).trans rfl
              have hcz72_1 : wr.cell? ⟨gb120, 1, none⟩ = some (.int .i64 (wrap64 (t114 + t121))) := (blk_cell BK120.out 1).trans rfl
              have hcz72_2 : wr.cell? ⟨gb120, 2, none⟩ = some (.int .i64 (Go.bits .or .i64 t116 t118)) := (blk_cell BK120.out 2).trans rfl
              have hcz72_3 : wr.cell? ⟨gb120, 3, none⟩ = some (u121003) := (blk_cell BK120.out 3).trans rfl
              have hfz72_0 := blk_frozen BK120.out 0
              have hfz72_1 := blk_frozen BK120.out 1
              have hfz72_2 := blk_frozen BK120.out 2
              have hfz72_3 := blk_frozen BK120.out 3
              obtain ⟨Ao73, co73, eo73, _⟩ := Kd.Q_slice HO_121003.out
              subst eo73
              go_wp2_with (first | ((with_reducible refine gate_callee (f := 63) rfl ?_); refine goesL_ (some 41) rfl rfl Try.func63 (by kernel_rfl) rfl #[.pointer (some ⟨g, 0, none⟩), .int .i64 30] rfl (by (try simp only [List.map_toArray, List.map_cons, List.map_nil]); first | done | rfl | (simp only [List.length_drop, List.length_take]; rfl)) ?_; (with_reducible refine (spec_reader_pick.calls k1 g s0_0 x1001_1 30 t140 t141 w0 _ ?side1 ?side2 A42.out).mono ?_); (case side1 => repeat (first | (with_reducible first | exact HI0.out | apply IsS82.alloc | apply IsS82.drewN | apply IsS82.drew | apply IsS82.set_1 | refine IsS82.far ?_ NB0_113.out _ | refine IsS82.far ?_ NB0_120.out _) | exact HI0.out)); (case side2 => repeat (first | (with_reducible first | exact HB.out | apply below_alloc | apply pw_below_drewN | apply below_drew1 | refine below_set ?_ (IsS82.ge HI0.out) | refine below_set ?_ GE113.out | refine below_set ?_ GE120.out) | exact HB.out)); rintro e w74 ⟨rfl, hi, hb, hk⟩; refine ⟨_, rfl, ?_⟩; have n0_ := Aside0.mk (Kd.Q_mono (Kd.Q_keep (IsS82.apartQ (show IsS82 w0 _ g s0_0 x1001_1 from by repeat (first | (with_reducible first | exact HI0.out | apply IsS82.alloc | apply IsS82.drewN | apply IsS82.drew | apply IsS82.set_1 | refine IsS82.far ?_ NB0_113.out _ | refine IsS82.far ?_ NB0_120.out _) | exact HI0.out)) (by (with_reducible repeat (first | apply Kd.Q_alloc | apply Kd.Q_drewN | apply Kd.Q_drew)); exact HO_121003.out) (by decide)) hk (fun _ h => h.2)) (fun _ h => h.1)); have n1_ := Aside0.mk (KeepBut.blk hk (g' := gb113) (o := .cells #[.int .i64 0, .int .i64 0, .int .i64 0, .slice none 0 0] 40 (0, 0)) (by (with_reducible repeat (first | refine blk_drewN ?_ _ | refine blk_drew ?_ | refine blk_alloc ?_ _)); exact BK113.out) NB113_0.out (by simp)); have n2_ := Aside0.mk (KeepBut.blk hk (g' := gb120) (o := .cells #[.int .i64 t114, .int .i64 (wrap64 (t114 + t121)), .int .i64 (Go.bits .or .i64 t116 t118), .slice Ao73 x121003_1.length co73] 40 (0, 0)) (by (with_reducible repeat (first | refine blk_drewN ?_ _ | refine blk_drew ?_ | refine blk_alloc ?_ _)); exact BK120.out) NB120_0.out (by simp)); have n3_ := Aside0.mk (KeepBut.trans (by repeat (first | (with_reducible first | exact HK.out | apply KeepBut.set_ | apply keep_drewN | apply keep_drew | apply keep_alloc | refine keep_far ?_ GW113.out _ | refine keep_far ?_ GW120.out _) | exact HK.out)) hk (.inl rfl)); have n4_ := Aside0.mk (hb); have n5_ := Aside0.mk (hi); clear HO_121003; clear BK113; clear BK120; clear HK; clear HB; clear HI0; have HO_121003 := n0_; have BK113 := n1_; have BK120 := n2_; have HK := n3_; have HB := n4_; have HI0 := n5_; clear n0_ n1_ n2_ n3_ n4_ n5_; (try clear hb); (try clear hb2); (try clear hk); (try clear hi); have hcz75_0 : w74.cell? ⟨gb120, 0, none⟩ = some (.int .i64 t114) := (blk_cell BK120.out 0).trans rfl; have hcz75_1 : w74.cell? ⟨gb120, 1, none⟩ = some (.int .i64 (wrap64 (t114 + t121))) := (blk_cell BK120.out 1).trans rfl; have hcz75_2 : w74.cell? ⟨gb120, 2, none⟩ = some (.int .i64 (Go.bits .or .i64 t116 t118)) := (blk_cell BK120.out 2).trans rfl; have hcz75_3 : w74.cell? ⟨gb120, 3, none⟩ = some (.slice Ao73 x121003_1.length co73) := (blk_cell BK120.out 3).trans rfl; have hfz75_0 := blk_frozen BK120.out 0; have hfz75_1 := blk_frozen BK120.out 1; have hfz75_2 := blk_frozen BK120.out 2; have hfz75_3 := blk_frozen BK120.out 3; have hnb76 := NB113_0.out; have hnc76 := NB0_113.out; have hcz77_0 : w74.cell? ⟨gb113, 0, none⟩ = some (.int .i64 0) := (blk_cell BK113.out 0).trans rfl; have hcz77_1 : w74.cell? ⟨gb113, 1, none⟩ = some (.int .i64 0) := (blk_cell BK113.out 1).trans rfl; have hcz77_2 : w74.cell? ⟨gb113, 2, none⟩ = some (.int .i64 0) := (blk_cell BK113.out 2).trans rfl; have hcz77_3 : w74.cell? ⟨gb113, 3, none⟩ = some (.slice none 0 0) := (blk_cell BK113.out 3).trans rfl; have hfz77_0 := blk_frozen BK113.out 0; have hfz77_1 := blk_frozen BK113.out 1; have hfz77_2 := blk_frozen BK113.out 2; have hfz77_3 := blk_frozen BK113.out 3))
              refine bodyPost_ret (results_cell_row rfl _ _ gb113 40 #[.int .i64 t114, .int .i64 (wrap64 (t114 + t121)), .int .i64 32, .slice Ao73 x121003_1.length co73] (0, 0) _ rfl (by (with_reducible repeat (first | refine blk_drewN ?_ _ | refine blk_drew ?_ | refine blk_alloc ?_ _)); refine blk_put (cs := #[.int .i64 t114, .int .i64 (wrap64 (t114 + t121)), .int .i64 32, .slice none 0 0]) ?_ 3 _ rfl; (with_reducible repeat (first | refine blk_drewN ?_ _ | refine blk_drew ?_ | refine blk_alloc ?_ _)); refine blk_put (cs := #[.int .i64 t114, .int .i64 (wrap64 (t114 + t121)), .int .i64 0, .slice none 0 0]) ?_ 2 _ rfl; (with_reducible repeat (first | refine blk_drewN ?_ _ | refine blk_drew ?_ | refine blk_alloc ?_ _)); refine blk_put (cs := #[.int .i64 t114, .int .i64 0, .int .i64 0, .slice none 0 0]) ?_ 1 _ rfl; (with_reducible repeat (first | refine blk_drewN ?_ _ | refine blk_drew ?_ | refine blk_alloc ?_ _)); refine blk_put (cs := #[.int .i64 0, .int .i64 0, .int .i64 0, .slice none 0 0]) ?_ 0 _ rfl; (with_reducible repeat (first | refine blk_drewN ?_ _ | refine blk_drew ?_ | refine blk_alloc ?_ _)); refine blk_far ?_ NB113_120.out _; (with_reducible repeat (first | refine blk_drewN ?_ _ | refine blk_drew ?_ | refine blk_alloc ?_ _)); exact BK113.out) Try.underlying40 rfl (by kernel_rfl)) rfl ?_
              exact ⟨_, by first | rfl | (simp [errW_none, errW_some] <;> rfl) | (simp [*, errW_none, errW_some] <;> rfl), by (with_reducible repeat (first | apply Kd.Q_alloc | apply Kd.Q_drewN | apply Kd.Q_drew)); exact Kd.Q_mono (Kd.Q_far (p := ⟨gb113, 3, none⟩) (Kd.Q_far (p := ⟨gb113, 2, none⟩) (Kd.Q_far (p := ⟨gb113, 1, none⟩) (Kd.Q_far (p := ⟨gb113, 0, none⟩) (Kd.Q_far (p := ⟨gb120, 2, none⟩) (Kd.Q_types (Kd.Q_types HO_121003.out BK120.out (by decide)) BK113.out (by decide)) (fun _ hk => hk.1.2) (.int .i64 32)) (fun _ hk => hk.2) (.int .i64 t114)) (fun _ hk => hk.2) (.int .i64 (wrap64 (t114 + t121)))) (fun _ hk => hk.2) (.int .i64 32)) (fun _ hk => hk.2) (.slice Ao73 x121003_1.length co73)) (fun _ hk => trivial), by repeat (first | (with_reducible first | exact HI0.out | apply IsS82.alloc | apply IsS82.drewN | apply IsS82.drew | apply IsS82.set_1 | refine IsS82.far ?_ NB0_113.out _ | refine IsS82.far ?_ NB0_120.out _) | exact HI0.out), by repeat (first | (with_reducible first | exact HB.out | apply below_alloc | apply pw_below_drewN | apply below_drew1 | refine below_set ?_ (IsS82.ge HI0.out) | refine below_set ?_ GE113.out | refine below_set ?_ GE120.out) | exact HB.out), by repeat (first | (with_reducible first | exact HK.out | apply KeepBut.set_ | apply keep_drewN | apply keep_drew | apply keep_alloc | refine keep_far ?_ GW113.out _ | refine keep_far ?_ GW120.out _) | exact HK.out)⟩
            · rw [if_neg c69] at H
              have c69b0 : (t140 == 2) = false := beq_eq_false_iff_ne.mpr c69
              have c69b1 : (t140 != 2) = true := bne_iff_ne.mpr c69
              simp only [Option.some.injEq, Prod.mk.injEq] at H
              obtain ⟨rfl, rfl, rfl, rfl, rfl⟩ := H
              have hnb78 := NB120_113.out
              have hnc78 := NB113_120.out
              have hnb79 := NB120_0.out
              have hnc79 := NB0_120.out
              have hcz80_0 : wr.cell? ⟨gb120, 0, none⟩ = some (.int .i64 t114) := (blk_cell BK120.out 0).trans rfl
              have hcz80_1 : wr.cell? ⟨gb120, 1, none⟩ = some (.int .i64 (wrap64 (t114 + t121))) := (blk_cell BK120.out 1).trans rfl
              have hcz80_2 : wr.cell? ⟨gb120, 2, none⟩ = some (.int .i64 (Go.bits .or .i64 t116 t118)) := (blk_cell BK120.out 2).trans rfl
              have hcz80_3 : wr.cell? ⟨gb120, 3, none⟩ = some (u121003) := (blk_cell BK120.out 3).trans rfl
              have hfz80_0 := blk_frozen BK120.out 0
              have hfz80_1 := blk_frozen BK120.out 1
              have hfz80_2 := blk_frozen BK120.out 2
              have hfz80_3 := blk_frozen BK120.out 3
              obtain ⟨Ao81, co81, eo81, _⟩ := Kd.Q_slice HO_121003.out
              subst eo81
              go_wp2_with (first | ((with_reducible refine gate_callee (f := 63) rfl ?_); refine goesL_ (some 41) rfl rfl Try.func63 (by kernel_rfl) rfl #[.pointer (some ⟨g, 0, none⟩), .int .i64 30] rfl (by (try simp only [List.map_toArray, List.map_cons, List.map_nil]); first | done | rfl | (simp only [List.length_drop, List.length_take]; rfl)) ?_; (with_reducible refine (spec_reader_pick.calls k1 g s0_0 x1001_1 30 t140 t141 w0 _ ?side1 ?side2 A42.out).mono ?_); (case side1 => repeat (first | (with_reducible first | exact HI0.out | apply IsS82.alloc | apply IsS82.drewN | apply IsS82.drew | apply IsS82.set_1 | refine IsS82.far ?_ NB0_113.out _ | refine IsS82.far ?_ NB0_120.out _) | exact HI0.out)); (case side2 => repeat (first | (with_reducible first | exact HB.out | apply below_alloc | apply pw_below_drewN | apply below_drew1 | refine below_set ?_ (IsS82.ge HI0.out) | refine below_set ?_ GE113.out | refine below_set ?_ GE120.out) | exact HB.out)); rintro e w82 ⟨rfl, hi, hb, hk⟩; refine ⟨_, rfl, ?_⟩; have n0_ := Aside0.mk (Kd.Q_mono (Kd.Q_keep (IsS82.apartQ (show IsS82 w0 _ g s0_0 x1001_1 from by repeat (first | (with_reducible first | exact HI0.out | apply IsS82.alloc | apply IsS82.drewN | apply IsS82.drew | apply IsS82.set_1 | refine IsS82.far ?_ NB0_113.out _ | refine IsS82.far ?_ NB0_120.out _) | exact HI0.out)) (by (with_reducible repeat (first | apply Kd.Q_alloc | apply Kd.Q_drewN | apply Kd.Q_drew)); exact HO_121003.out) (by decide)) hk (fun _ h => h.2)) (fun _ h => h.1)); have n1_ := Aside0.mk (KeepBut.blk hk (g' := gb113) (o := .cells #[.int .i64 0, .int .i64 0, .int .i64 0, .slice none 0 0] 40 (0, 0)) (by (with_reducible repeat (first | refine blk_drewN ?_ _ | refine blk_drew ?_ | refine blk_alloc ?_ _)); exact BK113.out) NB113_0.out (by simp)); have n2_ := Aside0.mk (KeepBut.blk hk (g' := gb120) (o := .cells #[.int .i64 t114, .int .i64 (wrap64 (t114 + t121)), .int .i64 (Go.bits .or .i64 t116 t118), .slice Ao81 x121003_1.length co81] 40 (0, 0)) (by (with_reducible repeat (first | refine blk_drewN ?_ _ | refine blk_drew ?_ | refine blk_alloc ?_ _)); exact BK120.out) NB120_0.out (by simp)); have n3_ := Aside0.mk (KeepBut.trans (by repeat (first | (with_reducible first | exact HK.out | apply KeepBut.set_ | apply keep_drewN | apply keep_drew | apply keep_alloc | refine keep_far ?_ GW113.out _ | refine keep_far ?_ GW120.out _) | exact HK.out)) hk (.inl rfl)); have n4_ := Aside0.mk (hb); have n5_ := Aside0.mk (hi); clear HO_121003; clear BK113; clear BK120; clear HK; clear HB; clear HI0; have HO_121003 := n0_; have BK113 := n1_; have BK120 := n2_; have HK := n3_; have HB := n4_; have HI0 := n5_; clear n0_ n1_ n2_ n3_ n4_ n5_; (try clear hb); (try clear hb2); (try clear hk); (try clear hi); have hcz83_0 : w82.cell? ⟨gb120, 0, none⟩ = some (.int .i64 t114) := (blk_cell BK120.out 0).trans rfl; have hcz83_1 : w82.cell? ⟨gb120, 1, none⟩ = some (.int .i64 (wrap64 (t114 + t121))) := (blk_cell BK120.out 1).trans rfl; have hcz83_2 : w82.cell? ⟨gb120, 2, none⟩ = some (.int .i64 (Go.bits .or .i64 t116 t118)) := (blk_cell BK120.out 2).trans rfl; have hcz83_3 : w82.cell? ⟨gb120, 3, none⟩ = some (.slice Ao81 x121003_1.length co81) := (blk_cell BK120.out 3).trans rfl; have hfz83_0 := blk_frozen BK120.out 0; have hfz83_1 := blk_frozen BK120.out 1; have hfz83_2 := blk_frozen BK120.out 2; have hfz83_3 := blk_frozen BK120.out 3; have hnb84 := NB113_0.out; have hnc84 := NB0_113.out; have hcz85_0 : w82.cell? ⟨gb113, 0, none⟩ = some (.int .i64 0) := (blk_cell BK113.out 0).trans rfl; have hcz85_1 : w82.cell? ⟨gb113, 1, none⟩ = some (.int .i64 0) := (blk_cell BK113.out 1).trans rfl; have hcz85_2 : w82.cell? ⟨gb113, 2, none⟩ = some (.int .i64 0) := (blk_cell BK113.out 2).trans rfl; have hcz85_3 : w82.cell? ⟨gb113, 3, none⟩ = some (.slice none 0 0) := (blk_cell BK113.out 3).trans rfl; have hfz85_0 := blk_frozen BK113.out 0; have hfz85_1 := blk_frozen BK113.out 1; have hfz85_2 := blk_frozen BK113.out 2; have hfz85_3 := blk_frozen BK113.out 3))
              refine bodyPost_ret (results_cell_row rfl _ _ gb113 40 #[.int .i64 t114, .int .i64 (wrap64 (t114 + t121)), .int .i64 (Go.bits .or .i64 t116 t118), .slice Ao81 x121003_1.length co81] (0, 0) _ rfl (by (with_reducible repeat (first | refine blk_drewN ?_ _ | refine blk_drew ?_ | refine blk_alloc ?_ _)); refine blk_put (cs := #[.int .i64 t114, .int .i64 (wrap64 (t114 + t121)), .int .i64 (Go.bits .or .i64 t116 t118), .slice none 0 0]) ?_ 3 _ rfl; (with_reducible repeat (first | refine blk_drewN ?_ _ | refine blk_drew ?_ | refine blk_alloc ?_ _)); refine blk_put (cs := #[.int .i64 t114, .int .i64 (wrap64 (t114 + t121)), .int .i64 0, .slice none 0 0]) ?_ 2 _ rfl; (with_reducible repeat (first | refine blk_drewN ?_ _ | refine blk_drew ?_ | refine blk_alloc ?_ _)); refine blk_put (cs := #[.int .i64 t114, .int .i64 0, .int .i64 0, .slice none 0 0]) ?_ 1 _ rfl; (with_reducible repeat (first | refine blk_drewN ?_ _ | refine blk_drew ?_ | refine blk_alloc ?_ _)); refine blk_put (cs := #[.int .i64 0, .int .i64 0, .int .i64 0, .slice none 0 0]) ?_ 0 _ rfl; (with_reducible repeat (first | refine blk_drewN ?_ _ | refine blk_drew ?_ | refine blk_alloc ?_ _)); exact BK113.out) Try.underlying40 rfl (by kernel_rfl)) rfl ?_
              exact ⟨_, by first | rfl | (simp [errW_none, errW_some] <;> rfl) | (simp [*, errW_none, errW_some] <;> rfl), by (with_reducible repeat (first | apply Kd.Q_alloc | apply Kd.Q_drewN | apply Kd.Q_drew)); exact Kd.Q_mono (Kd.Q_far (p := ⟨gb113, 3, none⟩) (Kd.Q_far (p := ⟨gb113, 2, none⟩) (Kd.Q_far (p := ⟨gb113, 1, none⟩) (Kd.Q_far (p := ⟨gb113, 0, none⟩) (Kd.Q_types HO_121003.out BK113.out (by decide)) (fun _ hk => hk.2) (.int .i64 t114)) (fun _ hk => hk.2) (.int .i64 (wrap64 (t114 + t121)))) (fun _ hk => hk.2) (.int .i64 (Go.bits .or .i64 t116 t118))) (fun _ hk => hk.2) (.slice Ao81 x121003_1.length co81)) (fun _ hk => trivial), by repeat (first | (with_reducible first | exact HI0.out | apply IsS82.alloc | apply IsS82.drewN | apply IsS82.drew | apply IsS82.set_1 | refine IsS82.far ?_ NB0_113.out _ | refine IsS82.far ?_ NB0_120.out _) | exact HI0.out), by repeat (first | (with_reducible first | exact HB.out | apply below_alloc | apply pw_below_drewN | apply below_drew1 | refine below_set ?_ (IsS82.ge HI0.out) | refine below_set ?_ GE113.out | refine below_set ?_ GE120.out) | exact HB.out), by repeat (first | (with_reducible first | exact HK.out | apply KeepBut.set_ | apply keep_drewN | apply keep_drew | apply keep_alloc | refine keep_far ?_ GW113.out _ | refine keep_far ?_ GW120.out _) | exact HK.out)⟩

/-! ### spec_newReader: function 57 -/
def spec_newReader.f (l0 : List Int) : Option (List Int × Int) := if (l0.length : Int) > 2000 then (if 2000 ≤ (l0.length : Int) then (some (l0.take 2000, 0)) else (none)) else (some (l0, 0))
set_option maxHeartbeats 8000000 in
set_option maxRecDepth 100000 in
theorem spec_newReader.calls (A0 : Option Addr) (c0 : Nat) (l0 : List Int) (r1 : List Int) (r2 : Int) (w0 w : World) (hB : Below w0.heap.size w0 w) (hr0 : Kd.C (Kd.int .u8) w0 A0 l0.length l0) (hc0 : l0.length ≤ c0) (h : spec_newReader.f l0 = some (r1, r2)) :
    Calls Try.prog 57 #[.slice A0 l0.length c0] w fun e w' => ∃ g_ : Nat, e = .returned (.pointer (some ⟨g_, 0, none⟩)) ∧ IsS82 w0 w' g_ r1 r2 ∧ Below w0.heap.size w0 w' ∧ Below w.heap.size w w' := by
  have hu82 := Try.underlying82
  have HR0 := Aside0.mk hr0
  have HC0 := Aside0.mk hc0
  clear hr0 hc0
  have HBW := Aside0.mk (Below.refl w.heap.size w)
  have HW0 := Aside0.mk hB.size
  have HB := Aside0.mk hB
  clear hB
  have H : (if (l0.length : Int) > 2000 then (if 2000 ≤ (l0.length : Int) then (some (l0.take 2000, 0)) else (none)) else (some (l0, 0))) = some (r1, r2) := h
  clear h
  by_cases c2 : (l0.length : Int) > 2000
  · rw [if_pos c2] at H
    have c2b0 : decide (2000 < (l0.length : Int)) = true := decide_eq_true c2
    have c2b1 : decide (2000 < l0.length) = true := decide_eq_true (by omega)
    clear c2
    by_cases c3 : 2000 ≤ (l0.length : Int)
    · rw [if_pos c3] at H
      have c3b0 := eq_true c3
      have c3b1 : decide (2000 ≤ (l0.length : Int)) = true := decide_eq_true c3
      clear c3
      simp only [Option.some.injEq, Prod.mk.injEq] at H
      obtain ⟨rfl, rfl⟩ := H
      obtain ⟨i04, hi04, _, hsz4, _⟩ := info_parts info5
      obtain ⟨hcut4, hA4, hC4⟩ := print_take_of (P := Try.prog) (Value.int .u8) 0 44 5 .i64 Try.underlying44 hi04 hsz4 A0 c0 l0 2000 (by omega) (of_decide_eq_true (by first | (with_reducible assumption) | assumption)) HC0.out
      have HR150 := Aside0.mk (Kd.C_of_reads (h1 := fun _ => rfl) (hA4 _ (Kd.reads_of_C HR0.out)))
      have HC150 := Aside0.mk hC4
      clear hA4 hC4 hi04 hsz4
      go_enter Try.func57, Try.ntmps57
      go_wp2_with (first | ((with_reducible refine gate_dst (N := 10) rfl ?_); refine box_event ?hg (N := 10) ?hd (cs := #[.slice A0 (l0.take 2000).length c0, .int .i64 0]) (t := 82) ?hr ?_; (case hd => rfl); (case hg => rfl); (case hr => first | (go_simp; done) | (go_simp; rfl)); intro gb151 hg w5 hbox hb; have n0_ := Aside0.mk (below_step HBW.out hb); have n1_ := Aside0.mk (below_step (by repeat (first | (with_reducible first | exact HB.out | apply below_alloc | apply pw_below_drewN | apply below_drew1) | exact HB.out)) hb); have n2_ := Aside0.mk (hbox); have n3_ := Aside0.mk ((by rw [hg]; exact (below_size (by repeat (first | (with_reducible first | exact HBW.out | apply below_alloc | apply pw_below_drewN | apply below_drew1) | exact HBW.out))) : w.heap.size ≤ gb151)); have n4_ := Aside0.mk ((Nat.le_trans HW0.out (by rw [hg]; exact (below_size (by repeat (first | (with_reducible first | exact HBW.out | apply below_alloc | apply pw_below_drewN | apply below_drew1) | exact HBW.out))) : w.heap.size ≤ gb151) : w0.heap.size ≤ gb151)); clear HBW; clear HB; have HBW := n0_; have HB := n1_; have BK151 := n2_; have GW151 := n3_; have GE151 := n4_; clear n0_ n1_ n2_ n3_ n4_; clear hb hbox hg))
      go_ret
      exact ⟨_, rfl, (show IsS82 w0 _ gb151 (l0.take 2000) 0 from ⟨_, _, by (with_reducible repeat (first | refine blk_drewN ?_ _ | refine blk_drew ?_ | refine blk_alloc ?_ _)); exact BK151.out, GE151.out, HR150.out⟩), by repeat (first | (with_reducible first | exact HB.out | apply below_alloc | apply pw_below_drewN | apply below_drew1 | refine below_set ?_ GE151.out) | exact HB.out), by repeat (first | (with_reducible first | exact HBW.out | apply below_alloc | apply pw_below_drewN | apply below_drew1 | refine below_set ?_ GW151.out) | exact HBW.out)⟩
    · rw [if_neg c3] at H
      exact absurd H (by simp)
  · rw [if_neg c2] at H
    have c2b0 : decide (2000 < (l0.length : Int)) = false := decide_eq_false c2
    have c2b1 : decide (2000 < l0.length) = false := decide_eq_false (by omega)
    clear c2
    simp only [Option.some.injEq, Prod.mk.injEq] at H
    obtain ⟨rfl, rfl⟩ := H
    go_enter Try.func57, Try.ntmps57
    go_wp2_with (first | ((with_reducible refine gate_dst (N := 10) rfl ?_); refine box_event ?hg (N := 10) ?hd (cs := #[.slice A0 l0.length c0, .int .i64 0]) (t := 82) ?hr ?_; (case hd => rfl); (case hg => rfl); (case hr => first | (go_simp; done) | (go_simp; rfl)); intro gb152 hg w6 hbox hb; have n0_ := Aside0.mk (below_step HBW.out hb); have n1_ := Aside0.mk (below_step (by repeat (first | (with_reducible first | exact HB.out | apply below_alloc | apply pw_below_drewN | apply below_drew1) | exact HB.out)) hb); have n2_ := Aside0.mk (hbox); have n3_ := Aside0.mk ((by rw [hg]; exact (below_size (by repeat (first | (with_reducible first | exact HBW.out | apply below_alloc | apply pw_below_drewN | apply below_drew1) | exact HBW.out))) : w.heap.size ≤ gb152)); have n4_ := Aside0.mk ((Nat.le_trans HW0.out (by rw [hg]; exact (below_size (by repeat (first | (with_reducible first | exact HBW.out | apply below_alloc | apply pw_below_drewN | apply below_drew1) | exact HBW.out))) : w.heap.size ≤ gb152) : w0.heap.size ≤ gb152)); clear HBW; clear HB; have HBW := n0_; have HB := n1_; have BK152 := n2_; have GW152 := n3_; have GE152 := n4_; clear n0_ n1_ n2_ n3_ n4_; clear hb hbox hg))
    go_ret
    exact ⟨_, rfl, (show IsS82 w0 _ gb152 l0 0 from ⟨_, _, by (with_reducible repeat (first | refine blk_drewN ?_ _ | refine blk_drew ?_ | refine blk_alloc ?_ _)); exact BK152.out, GE152.out, HR0.out⟩), by repeat (first | (with_reducible first | exact HB.out | apply below_alloc | apply pw_below_drewN | apply below_drew1 | refine below_set ?_ GE152.out) | exact HB.out), by repeat (first | (with_reducible first | exact HBW.out | apply below_alloc | apply pw_below_drewN | apply below_drew1 | refine below_set ?_ GW152.out) | exact HBW.out)⟩

end Go.Proofs.Ytnolmimfpnngjaa.HFnAgree
