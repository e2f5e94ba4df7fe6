-- Written by wip/hp.py, a program of this session.
import Derived.Test.YtdppkdcfocaemaaHFnExactTurnsOfx0
import Derived.Test.YtdppkdcfocaemaaHFnExactTurnsOfx1
namespace Go.Proofs.Ytdppkdcfocaemaa.HFnExactTurnsOf
open Go.RowKit Go.Proofs.YtdppkdcfocaemaaW.PrintWords Go.Proofs.YtdppkdcfocaemaaW.PrintLast Go.Proofs.YtdppkdcfocaemaaW.PrintMore
attribute [local go_sem] max2_int min2_int max_two min_two max_three min_three max_four min_four   -- for this text's walks alone
set_option linter.unusedVariables false
set_option linter.unusedSimpArgs false

set_option maxHeartbeats 8000000 in
set_option maxRecDepth 100000 in
theorem spec_serve.calls (k : Nat) (a0 : Int) (A1 : Option Addr) (c1 : Nat) (l1 : List (List Int)) (r : List Int) (w : World) (hr1 : Kd.C (Kd.slice 3 (Kd.int .i64)) w A1 l1.length l1) (hc1 : l1.length ≤ c1) (h : spec_serve.f k a0 l1 = some r) :
   Calls Try.prog 46 #[.int .i64 a0, .slice A1 l1.length c1] w fun e w' => ∃ v0_ : Value, e = .returned (v0_) ∧ Kd.R (Kd.int .i64) 3 w' w.heap.size (fun _ => True) v0_ r ∧ Below w.heap.size w w' := by
 have HR1 := Aside0.mk hr1
 have HC1 := Aside0.mk hc1
 clear hr1 hc1
 have HB := Aside0.mk (Below.refl w.heap.size w)
 have H : (if 0 ≤ (l1.length : Int) then (if ((l1.length : Int) : Int).toNat ≤ 35184372088832 then (spec_serve.l0 k a0 l1 (([] : List Int)) (List.replicate ((l1.length : Int) : Int).toNat 0) (List.replicate ((l1.length : Int) : Int).toNat 0) 0 0) else (none)) else (none)) = some r := h
 clear h
 obtain ⟨y108, hy108⟩ : ∃ y_ : List Int, y_ = (([] : List Int)) := ⟨_, rfl⟩
 replace H : (if 0 ≤ (l1.length : Int) then (if ((l1.length : Int) : Int).toNat ≤ 35184372088832 then (spec_serve.l0 k a0 l1 y108 (List.replicate ((l1.length : Int) : Int).toNat 0) (List.replicate ((l1.length : Int) : Int).toNat 0) 0 0) else (none)) else (none)) = some r := by first | (rw [hy108]; with_reducible exact H) | (have H2_ := (Option.bind_some _ _).symm.trans H; rw [hy108]; with_reducible exact H2_) | (have H2_ := (Option.bind_some _ _).symm.trans H; with_reducible exact H2_) | with_reducible exact H | (rw [hy108]; exact H) | exact H
 have Ny108 := Aside0.mk hy108
 clear hy108
 by_cases c3 : 0 ≤ (l1.length : Int)
 · rw [if_pos c3] at H
   have c3b0 := eq_true c3
   have c3b1 : decide (0 ≤ (l1.length : Int)) = true := decide_eq_true c3
   clear c3
   by_cases c4 : ((l1.length : Int) : Int).toNat ≤ 35184372088832
   · rw [if_pos c4] at H
     have c4b0 := eq_true c4
     have c4b1 : decide (((l1.length : Int) : Int).toNat ≤ 35184372088832) = true := decide_eq_true c4
     clear c4
     obtain ⟨y111, hy111⟩ : ∃ y_ : List Int, y_ = (List.replicate ((l1.length : Int) : Int).toNat 0) := ⟨_, rfl⟩
     replace H : (spec_serve.l0 k a0 l1 y108 y111 (List.replicate ((l1.length : Int) : Int).toNat 0) 0 0) = some r := by first | (rw [hy111]; with_reducible exact H) | (have H2_ := (Option.bind_some _ _).symm.trans H; rw [hy111]; with_reducible exact H2_) | (have H2_ := (Option.bind_some _ _).symm.trans H; with_reducible exact H2_) | with_reducible exact H | (rw [hy111]; exact H) | exact H
     have Ny111 := Aside0.mk hy111
     clear hy111
     obtain ⟨y114, hy114⟩ : ∃ y_ : List Int, y_ = (List.replicate ((l1.length : Int) : Int).toNat 0) := ⟨_, rfl⟩
     replace H : (spec_serve.l0 k a0 l1 y108 y111 y114 0 0) = some r := by first | (rw [hy114]; with_reducible exact H) | (have H2_ := (Option.bind_some _ _).symm.trans H; rw [hy114]; with_reducible exact H2_) | (have H2_ := (Option.bind_some _ _).symm.trans H; with_reducible exact H2_) | with_reducible exact H | (rw [hy114]; exact H) | exact H
     have Ny114 := Aside0.mk hy114
     clear hy114
     have H' := Aside0.mk H
     clear H
     go_enter Try.func46, Try.ntmps46
     go_wp2_with (first | ((with_reducible refine gate_dst (N := 11) rfl ?_); refine Kd.R_lit (Kd.int .i64) _ 3 ?hg (N := 11) ?hd (xs := ([] : List Int)) (inner := []) (ok := fun _ => True) (okp := fun _ => True) ?hr ?hp (fun _ hk => hk) trivial (Below.refl _ _) (Nat.le_refl _) (by simp) ?_; (case hd => rfl); (case hg => rfl); (case hr => first | (go_simp; done) | (go_simp; rfl)); (case hp => exact (Reps.none _ _)); intro v109 w5 ho6 hb hg_ hnew_; clear hg_ hnew_; (first | rw [← Ny108.out] at ho6 | (simp only [Int.reduceToNat] at ho6; rw [← Ny108.out] at ho6)); have n0_ := Aside0.mk (Kd.R_lower ho6 (below_size (by repeat (first | (with_reducible first | exact HB.out | apply below_alloc | apply pw_below_drewN | apply below_drew1) | exact HB.out)))); have n1_ := Aside0.mk (below_step (by repeat (first | (with_reducible first | exact HB.out | apply below_alloc | apply pw_below_drewN | apply below_drew1) | exact HB.out)) hb); clear HB; have HO110 := n0_; have HB := n1_; clear n0_ n1_; clear hb ho6) | ((with_reducible refine gate_dst (N := 14) rfl ?_); refine Kd.R_make (Kd.int .i64) _ 3 rfl (N := 14) rfl 24 _ _ rfl (l1.length : Int) rfl rfl Try.underlying24 (.int .i64 0) 8 info3 rfl (by decide) (by omega) 0 (ok := fun _ => True) (okp := fun _ => True) rfl (fun _ hk => hk) trivial (of_decide_eq_true (by assumption)) (Nat.le_trans (Nat.mul_le_mul_right _ (of_decide_eq_true (by assumption) : (l1.length : Int).toNat ≤ 35184372088832)) (by omega)) (Below.refl _ _) (Nat.le_refl _) ?_; intro v112 w7 ho8 hb hg_ hnew_; clear hg_ hnew_; (first | rw [← Ny111.out] at ho8 | (simp only [Int.reduceToNat] at ho8; rw [← Ny111.out] at ho8)); have n0_ := Aside0.mk (Kd.R_elder' (by (with_reducible repeat (first | apply Kd.R_alloc | apply Kd.R_drewN | apply Kd.R_drew)); exact HO110.out) (Kd.R_base ho8) hb); have n1_ := Aside0.mk (Kd.R_lower (Kd.R_new' ho8 (Kd.R_lt (by (with_reducible repeat (first | apply Kd.R_alloc | apply Kd.R_drewN | apply Kd.R_drew)); exact HO110.out))) (below_size (by repeat (first | (with_reducible first | exact HB.out | apply below_alloc | apply pw_below_drewN | apply below_drew1) | exact HB.out)))); have n2_ := Aside0.mk (below_step (by repeat (first | (with_reducible first | exact HB.out | apply below_alloc | apply pw_below_drewN | apply below_drew1) | exact HB.out)) hb); clear HO110; clear HB; have HO110 := n0_; have HO113 := n1_; have HB := n2_; clear n0_ n1_ n2_; clear hb ho8) | ((with_reducible refine gate_dst (N := 17) rfl ?_); refine Kd.R_make (Kd.int .i64) _ 3 rfl (N := 17) rfl 24 _ _ rfl (l1.length : Int) rfl rfl Try.underlying24 (.int .i64 0) 8 info3 rfl (by decide) (by omega) 0 (ok := fun _ => True) (okp := fun _ => True) rfl (fun _ hk => hk) trivial (of_decide_eq_true (by assumption)) (Nat.le_trans (Nat.mul_le_mul_right _ (of_decide_eq_true (by assumption) : (l1.length : Int).toNat ≤ 35184372088832)) (by omega)) (Below.refl _ _) (Nat.le_refl _) ?_; intro v115 w9 ho10 hb hg_ hnew_; clear hg_ hnew_; (first | rw [← Ny114.out] at ho10 | (simp only [Int.reduceToNat] at ho10; rw [← Ny114.out] at ho10)); have n0_ := Aside0.mk (Kd.R_elder' (by (with_reducible repeat (first | apply Kd.R_alloc | apply Kd.R_drewN | apply Kd.R_drew)); exact HO110.out) (Kd.R_base ho10) hb); have n1_ := Aside0.mk (Kd.R_elder' (by (with_reducible repeat (first | apply Kd.R_alloc | apply Kd.R_drewN | apply Kd.R_drew)); exact HO113.out) (Kd.R_base ho10) hb); have n2_ := Aside0.mk (Kd.R_lower (Kd.R_new' (Kd.R_new' ho10 (Kd.R_lt (by (with_reducible repeat (first | apply Kd.R_alloc | apply Kd.R_drewN | apply Kd.R_drew)); exact HO110.out))) (Kd.R_lt (by (with_reducible repeat (first | apply Kd.R_alloc | apply Kd.R_drewN | apply Kd.R_drew)); exact HO113.out))) (below_size (by repeat (first | (with_reducible first | exact HB.out | apply below_alloc | apply pw_below_drewN | apply below_drew1) | exact HB.out)))); have n3_ := Aside0.mk (below_step (by repeat (first | (with_reducible first | exact HB.out | apply below_alloc | apply pw_below_drewN | apply below_drew1) | exact HB.out)) hb); clear HO110; clear HO113; clear HB; have HO110 := n0_; have HO113 := n1_; have HO116 := n2_; have HB := n3_; clear n0_ n1_ n2_ n3_; clear hb ho10))
     go_loopg [8, 9] k (fun kq v8 v9 w' => ∃ (x8_1 : Int) (x9_1 : Int), v8 = .int .i64 x8_1 ∧ v9 = .int .i64 x9_1 ∧ Aside0 (spec_serve.l0 kq a0 l1 y108 y111 y114 x8_1 x9_1 = some r) ∧ Aside0 (kq ≤ k) ∧ Aside0 (Kd.R (Kd.int .i64) 3 w' w.heap.size (fun k_ => some k_ ≠ (v112 : Value).ownBlock ∧ some k_ ≠ (v115 : Value).ownBlock) v109 y108) ∧ Aside0 (Kd.R (Kd.int .i64) 3 w' w.heap.size (fun k_ => some k_ ≠ (v109 : Value).ownBlock ∧ some k_ ≠ (v115 : Value).ownBlock) v112 y111) ∧ Aside0 (Kd.R (Kd.int .i64) 3 w' w.heap.size (fun k_ => some k_ ≠ (v109 : Value).ownBlock ∧ some k_ ≠ (v112 : Value).ownBlock) v115 y114) ∧ Aside0 (Below w.heap.size w w'))
     case atStart => exact ⟨(0), (0), (by first | rfl | (simp; done) | (simp [*]; done)), (by first | rfl | (simp; done) | (simp [*]; done)), H', ⟨Nat.le_refl _⟩, ⟨by (with_reducible repeat (first | apply Kd.R_alloc | apply Kd.R_drewN | apply Kd.R_drew)); exact Kd.R_mono HO110.out (fun _ hk => ⟨hk.1.2, hk.2⟩)⟩, ⟨by (with_reducible repeat (first | apply Kd.R_alloc | apply Kd.R_drewN | apply Kd.R_drew)); exact Kd.R_mono HO113.out (fun _ hk => ⟨hk.1.2, hk.2⟩)⟩, ⟨by (with_reducible repeat (first | apply Kd.R_alloc | apply Kd.R_drewN | apply Kd.R_drew)); exact Kd.R_mono HO116.out (fun _ hk => ⟨hk.1.2, hk.2⟩)⟩, ⟨by repeat (first | (with_reducible first | exact HB.out | apply below_alloc | apply pw_below_drewN | apply below_drew1) | exact HB.out)⟩⟩
     case round =>
       clear H'
       try clear c1
       try clear p2
       try clear c3
       try clear c3b0
       try clear c3b1
       try clear c4
       try clear c4b0
       try clear c4b1
       obtain ⟨x8_1, x9_1, rfl, rfl, HA, HK1, HO_5, HO_6, HO_7, HB⟩ := hrel
       cases gk with
       | zero => exact absurd HA.out (by simp [spec_serve.l0])
       | succ k1 =>
         have H := HA.out
         clear HA
         simp only [spec_serve.l0] at H
         by_cases c11 : x9_1 < (l1.length : Int)
         · rw [if_pos c11] at H
           have c11b0 : decide (x9_1 < (l1.length : Int)) = true := decide_eq_true c11
           clear c11
           by_cases c12 : 0 ≤ x9_1
           · rw [if_pos c12] at H
             have c12b0 : decide (0 ≤ x9_1) = true := decide_eq_true c12
             clear c12
             have H' := Aside0.mk H
             clear H
             have p117 : 0 ≤ (x9_1 : Int) := of_decide_eq_true (by assumption)
             have q117 : x9_1 < (l1.length : Int) := of_decide_eq_true (by assumption)
             obtain ⟨ad117, A117_0, c117_0, e117, hx117_0, hl117_0, hi117_0⟩ := at_L1 HR1.out x9_1 p117 q117
             cases e117
             replace hx117_0 := (HB.out.cell (World.block_lt_of_cell? w _ hx117_0)).trans hx117_0
             have HR117_0 := Aside0.mk hi117_0
             have HC117_0 := Aside0.mk hl117_0
             clear hi117_0 hl117_0
             replace p117 := eq_true p117
             replace q117 := eq_true q117
             go_wp2
             go_roundg k1
             case measure => have := HK1.out; omega
             case rel => exact ⟨(wrap64 (x8_1 + ((rd_L1 l1 x9_1).length : Int))), (wrap64 (x9_1 + 1)), (by first | rfl | (simp; done) | (simp [*]; done)), (by first | rfl | (simp; done) | (simp [*]; done)), H', ⟨by have := HK1.out; omega⟩, ⟨by (with_reducible repeat (first | apply Kd.R_alloc | apply Kd.R_drewN | apply Kd.R_drew)); exact HO_5.out⟩, ⟨by (with_reducible repeat (first | apply Kd.R_alloc | apply Kd.R_drewN | apply Kd.R_drew)); exact HO_6.out⟩, ⟨by (with_reducible repeat (first | apply Kd.R_alloc | apply Kd.R_drewN | apply Kd.R_drew)); exact HO_7.out⟩, ⟨by repeat (first | (with_reducible first | exact HB.out | apply below_alloc | apply pw_below_drewN | apply below_drew1) | exact HB.out)⟩⟩
           · rw [if_neg c12] at H
             exact absurd H (by simp)
         · rw [if_neg c11] at H
           have c11b0 : decide (x9_1 < (l1.length : Int)) = false := decide_eq_false c11
           clear c11
           have H' := Aside0.mk H
           clear H
           go_wp2
           go_loopg [5, 8] k1 (fun kq v5 v8 w' => ∃ (x5_2 : List Int) (x6_2 : List Int) (x7_2 : List Int) (x8_2 : Int), v8 = .int .i64 x8_2 ∧ Aside0 (spec_serve.l1 kq a0 l1 x5_2 x6_2 x7_2 x8_2 = some r) ∧ Aside0 (kq ≤ k1) ∧ Aside0 (Kd.R (Kd.int .i64) 3 w' w.heap.size (fun k_ => some k_ ≠ (v112 : Value).ownBlock ∧ some k_ ≠ (v115 : Value).ownBlock) v5 x5_2) ∧ Aside0 (Kd.R (Kd.int .i64) 3 w' w.heap.size (fun k_ => some k_ ≠ (v5 : Value).ownBlock ∧ some k_ ≠ (v115 : Value).ownBlock) v112 x6_2) ∧ Aside0 (Kd.R (Kd.int .i64) 3 w' w.heap.size (fun k_ => some k_ ≠ (v5 : Value).ownBlock ∧ some k_ ≠ (v112 : Value).ownBlock) v115 x7_2) ∧ Aside0 (Below w.heap.size w w'))
           case atStart => exact ⟨(y108), (y111), (y114), (x8_1), (by first | rfl | (simp; done) | (simp [*]; done)), H', ⟨Nat.le_refl _⟩, ⟨by (with_reducible repeat (first | apply Kd.R_alloc | apply Kd.R_drewN | apply Kd.R_drew)); exact HO_5.out⟩, ⟨by (with_reducible repeat (first | apply Kd.R_alloc | apply Kd.R_drewN | apply Kd.R_drew)); exact HO_6.out⟩, ⟨by (with_reducible repeat (first | apply Kd.R_alloc | apply Kd.R_drewN | apply Kd.R_drew)); exact HO_7.out⟩, ⟨by repeat (first | (with_reducible first | exact HB.out | apply below_alloc | apply pw_below_drewN | apply below_drew1) | exact HB.out)⟩⟩
           case round =>
             clear H'
             try clear c1
             try clear p1
             try clear q1
             try clear hx1
             try clear p2
             try clear c3
             try clear c3b0
             try clear c3b1
             try clear c4
             try clear c4b0
             try clear c4b1
             try clear p6
             try clear c11
             try clear c11b0
             try clear p11
             try clear q11
             try clear hx11
             try clear c12
             try clear c12b0
             try clear hx117_0
             try clear p117
             try clear p2
             try clear q117
             obtain ⟨x5_2, x6_2, x7_2, x8_2, rfl, HA, HK2, HO_5, HO_6, HO_7, HB⟩ := hrel
             cases gk with
             | zero => exact absurd HA.out (by simp [spec_serve.l1])
             | succ k2 =>
               have H := HA.out
               clear HA
               simp only [spec_serve.l1] at H
               by_cases c13 : x8_2 > 0
               · rw [if_pos c13] at H
                 have c13b0 : decide (0 < x8_2) = true := decide_eq_true c13
                 clear c13
                 have H' := Aside0.mk H
                 clear H
                 go_wp2
                 go_loopg [5, 8, 10] k2 (fun kq v5 v8 v10 w' => ∃ (x5_3 : List Int) (x6_3 : List Int) (x7_3 : List Int) (x8_3 : Int) (x10_3 : Int), v8 = .int .i64 x8_3 ∧ v10 = .int .i64 x10_3 ∧ Aside0 (spec_serve.l2 kq a0 l1 x5_3 x6_3 x7_3 x8_3 x10_3 = some r) ∧ Aside0 (kq ≤ k2) ∧ Aside0 (Kd.R (Kd.int .i64) 3 w' w.heap.size (fun k_ => some k_ ≠ (v112 : Value).ownBlock ∧ some k_ ≠ (v115 : Value).ownBlock) v5 x5_3) ∧ Aside0 (Kd.R (Kd.int .i64) 3 w' w.heap.size (fun k_ => some k_ ≠ (v5 : Value).ownBlock ∧ some k_ ≠ (v115 : Value).ownBlock) v112 x6_3) ∧ Aside0 (Kd.R (Kd.int .i64) 3 w' w.heap.size (fun k_ => some k_ ≠ (v5 : Value).ownBlock ∧ some k_ ≠ (v112 : Value).ownBlock) v115 x7_3) ∧ Aside0 (Below w.heap.size w w'))
                 case atStart => exact ⟨(x5_2), (x6_2), (x7_2), (x8_2), (0), (by first | rfl | (simp; done) | (simp [*]; done)), (by first | rfl | (simp; done) | (simp [*]; done)), H', ⟨Nat.le_refl _⟩, ⟨by (with_reducible repeat (first | apply Kd.R_alloc | apply Kd.R_drewN | apply Kd.R_drew)); exact HO_5.out⟩, ⟨by (with_reducible repeat (first | apply Kd.R_alloc | apply Kd.R_drewN | apply Kd.R_drew)); exact HO_6.out⟩, ⟨by (with_reducible repeat (first | apply Kd.R_alloc | apply Kd.R_drewN | apply Kd.R_drew)); exact HO_7.out⟩, ⟨by repeat (first | (with_reducible first | exact HB.out | apply below_alloc | apply pw_below_drewN | apply below_drew1) | exact HB.out)⟩⟩
                 case round =>
                   clear H'
                   try clear c1
                   try clear p1
                   try clear q1
                   try clear hx1
                   try clear p2
                   try clear c3
                   try clear c3b0
                   try clear c3b1
                   try clear c4
                   try clear c4b0
                   try clear c4b1
                   try clear p6
                   try clear c11
                   try clear c11b0
                   try clear p11
                   try clear q11
                   try clear hx11
                   try clear c12
                   try clear c12b0
                   try clear c13
                   try clear c13b0
                   try clear hx117_0
                   try clear p1
                   try clear p11
                   try clear p117
                   try clear p2
                   try clear p6
                   try clear q1
                   try clear q11
                   try clear q117
                   obtain ⟨x5_3, x6_3, x7_3, x8_3, x10_3, rfl, rfl, HA, HK3, HO_5, HO_6, HO_7, HB⟩ := hrel
                   cases gk with
                   | zero => exact absurd HA.out (by simp [spec_serve.l2])
                   | succ k3 =>
                     have H := HA.out
                     clear HA
                     simp only [spec_serve.l2] at H
                     by_cases c14 : x10_3 < (l1.length : Int)
                     · rw [if_pos c14] at H
                       have c14b0 : decide (x10_3 < (l1.length : Int)) = true := decide_eq_true c14
                       clear c14
                       by_cases c15 : 0 ≤ x10_3
                       · rw [if_pos c15] at H
                         have c15b0 : decide (0 ≤ x10_3) = true := decide_eq_true c15
                         clear c15
                         by_cases c16 : x10_3 < (x6_3.length : Int)
                         · rw [if_pos c16] at H
                           have c16b0 : decide (x10_3 < (x6_3.length : Int)) = true := decide_eq_true c16
                           clear c16
                           by_cases c17 : (rd x6_3 x10_3) = ((rd_L1 l1 x10_3).length : Int)
                           · rw [if_pos c17] at H
                             have c17b0 : ((rd x6_3 x10_3) == ((rd_L1 l1 x10_3).length : Int)) = true := beq_iff_eq.mpr c17
                             have c17b1 : ((rd x6_3 x10_3) != ((rd_L1 l1 x10_3).length : Int)) = false := bne_eq_false_iff_eq.mpr c17
                             clear c17
                             have H' := Aside0.mk H
                             clear H
                             try go_wp2
                             have n0_ := Aside0.mk (Kd.R_drew HO_5.out)
                             have n1_ := Aside0.mk (Kd.R_drew HO_6.out)
                             have n2_ := Aside0.mk (Kd.R_drew HO_7.out)
                             have n3_ := Aside0.mk (below_drew1 HB.out)
                             clear HO_5
                             clear HO_6
                             clear HO_7
                             clear HB
                             have HO_5 := n0_
                             have HO_6 := n1_
                             have HO_7 := n2_
                             have HB := n3_
                             clear n0_ n1_ n2_ n3_
                             obtain ⟨Ao19, co19, eo19⟩ := Kd.R_slice HO_6.out
                             (first | subst eo19 | (injection eo19 with f1_ f2_ f3_; have f4_ := f1_.symm; have f5_ := f3_.symm; clear f1_ f2_ f3_; subst f4_; subst f5_))
                             have p118 : 0 ≤ (x10_3 : Int) := of_decide_eq_true (by assumption)
                             have q118 : x10_3 < (x6_3.length : Int) := of_decide_eq_true (by assumption)
                             obtain ⟨ad118, e118, hx118_0⟩ := Kd.at_int (Kd.R_reads' HO_6.out).2.2 x10_3 p118 q118
                             cases e118
                             replace p118 := eq_true p118
                             replace q118 := eq_true q118
                             have p119 : 0 ≤ (x10_3 : Int) := of_decide_eq_true (by assumption)
                             have q119 : x10_3 < (l1.length : Int) := of_decide_eq_true (by assumption)
                             obtain ⟨ad119, A119_0, c119_0, e119, hx119_0, hl119_0, hi119_0⟩ := at_L1 HR1.out x10_3 p119 q119
                             have hw119_0 := hx119_0
                             cases e119
                             replace hx119_0 := (HB.out.cell (World.block_lt_of_cell? w _ hx119_0)).trans hx119_0
                             have HR119_0 := Aside0.mk hi119_0
                             have HC119_0 := Aside0.mk hl119_0
                             clear hi119_0 hl119_0
                             replace p119 := eq_true p119
                             replace q119 := eq_true q119
                             refine start_ (n := 10) (S := fun w' => w'.cell? (ad118.add (x10_3).toNat) = some (.int .i64 (rd x6_3 x10_3)) ∧ w'.cell? (ad119.add (x10_3).toNat) = some (.slice A119_0 (rd_L1 l1 x10_3).length c119_0)) (ds := []) #[false, false, false, false, false, false, false, false, false, false] (by kernel_rfl) rfl rfl ⟨hx118_0, ((HB.out.cell (World.block_lt_of_cell? w _ hw119_0)).trans hw119_0)⟩ (fun hHeld => ?_); refine with_tabW spec_serve.tab13 spec_serve.bits13 (fun HT_ HW_ => ?_)
                             generalize wr.drew = w18 at HO_5 HO_6 HO_7 HB HR119_0 hx118_0 hx119_0 hHeld ⊢
                             refine pure_ (i := 0) (N := some 39) (v := ?_) (a' := ?_) #[true, false, false, false, false, false, false, false, false, false] rfl rfl (any_of HT_.out (by kernel_rfl)) (fun _ _ _ h => h) (Or.inl ⟨by rfl, ?_⟩) ?_ ?_
                             rotate_left
                             · intro w'
                               go_simp
                               with_reducible rfl
                             rotate_left
                             · simp only [Act.put, List.setIfInBounds_toArray, List.set_cons_zero, List.set_cons_succ, i64_w, i32_w]
                               rfl
                             refine pure_ (i := 1) (N := some 40) (v := ?_) (a' := ?_) #[true, true, false, false, false, false, false, false, false, false] rfl rfl (any_of HT_.out (by kernel_rfl)) (fun _ _ _ h => h) (Or.inl ⟨by rfl, ?_⟩) ?_ ?_
                             rotate_left
                             · intro w'
                               go_simp
                               with_reducible rfl
                             rotate_left
                             · simp only [Act.put, List.setIfInBounds_toArray, List.set_cons_zero, List.set_cons_succ, i64_w, i32_w]
                               rfl
                             refine pure_ (i := 2) (N := some 41) (v := ?_) (a' := ?_) #[true, true, true, false, false, false, false, false, false, false] rfl rfl (any_of HT_.out (by kernel_rfl)) (fun _ _ _ h => h) (Or.inl ⟨by rfl, ?_⟩) ?_ ?_
                             rotate_left
                             · intro w'
                               go_simp
                               with_reducible rfl
                             rotate_left
                             · simp only [Act.put, List.setIfInBounds_toArray, List.set_cons_zero, List.set_cons_succ, i64_w, i32_w]
                               rfl
                             refine pure_ (i := 4) (N := some 43) (v := ?_) (a' := ?_) #[true, true, true, false, true, false, false, false, false, false] rfl rfl (any_of HT_.out (by kernel_rfl)) (fun _ _ _ h => h) (Or.inl ⟨by rfl, ?_⟩) ?_ ?_
                             rotate_left
                             · intro w'
                               go_simp
                               with_reducible rfl
                             rotate_left
                             · simp only [Act.put, List.setIfInBounds_toArray, List.set_cons_zero, List.set_cons_succ, i64_w, i32_w]
                               rfl
                             refine pure_ (i := 5) (N := some 44) (v := ?_) (a' := ?_) #[true, true, true, false, true, true, false, false, false, false] rfl rfl (any_of HT_.out (by kernel_rfl)) (fun _ _ _ h => h) (Or.inl ⟨by rfl, ?_⟩) ?_ ?_
                             rotate_left
                             · intro w'
                               go_simp
                               with_reducible rfl
                             rotate_left
                             · simp only [Act.put, List.setIfInBounds_toArray, List.set_cons_zero, List.set_cons_succ, i64_w, i32_w]
                               rfl
                             refine pure_ (i := 6) (N := some 45) (v := ?_) (a' := ?_) #[true, true, true, false, true, true, true, false, false, false] rfl rfl (any_of HT_.out (by kernel_rfl)) (fun _ _ _ h => h) (Or.inl ⟨by rfl, ?_⟩) ?_ ?_
                             rotate_left
                             · intro w'
                               go_simp
                               with_reducible rfl
                             rotate_left
                             · simp only [Act.put, List.setIfInBounds_toArray, List.set_cons_zero, List.set_cons_succ, i64_w, i32_w]
                               rfl
                             refine take_ (i := 3) (N := some 42) (v := ?_) (a' := ?_) #[true, true, true, true, true, true, true, false, false, false] rfl rfl (take_ofW HT_.out HW_.out (by kernel_rfl)) (fun _ _ _ h => h) (Or.inl ⟨by rfl, ?_⟩) hHeld ?_ ?_
                             rotate_left
                             · rintro w' ⟨s0, s1⟩
                               go_simp
                               with_reducible rfl
                             rotate_left
                             · simp only [Act.put, List.setIfInBounds_toArray, List.set_cons_zero, List.set_cons_succ, i64_w, i32_w]
                               rfl
                             refine take_ (i := 7) (N := some 46) (v := ?_) (a' := ?_) #[true, true, true, true, true, true, true, true, false, false] rfl rfl (take_ofW HT_.out HW_.out (by kernel_rfl)) (fun _ _ _ h => h) (Or.inl ⟨by rfl, ?_⟩) hHeld ?_ ?_
                             rotate_left
                             · rintro w' ⟨s0, s1⟩
                               go_simp
                               with_reducible rfl
                             rotate_left
                             · simp only [Act.put, List.setIfInBounds_toArray, List.set_cons_zero, List.set_cons_succ, i64_w, i32_w]
                               rfl
                             refine pure_ (i := 8) (N := some 47) (v := ?_) (a' := ?_) #[true, true, true, true, true, true, true, true, true, false] rfl rfl (any_of HT_.out (by kernel_rfl)) (fun _ _ _ h => h) (Or.inl ⟨by rfl, ?_⟩) ?_ ?_
                             rotate_left
                             · intro w'
                               go_simp
                               with_reducible rfl
                             rotate_left
                             · simp only [Act.put, List.setIfInBounds_toArray, List.set_cons_zero, List.set_cons_succ, i64_w, i32_w]
                               rfl
                             refine pure_ (i := 9) (N := some 48) (v := ?_) (a' := ?_) #[true, true, true, true, true, true, true, true, true, true] rfl rfl (any_of HT_.out (by kernel_rfl)) (fun _ _ _ h => h) (Or.inl ⟨by rfl, ?_⟩) ?_ ?_
                             rotate_left
                             · intro w'
                               go_simp
                               with_reducible rfl
                             rotate_left
                             · simp only [Act.put, List.setIfInBounds_toArray, List.set_cons_zero, List.set_cons_succ, i64_w, i32_w]
                               rfl
                             refine done_ (done_of HT_.out (by kernel_rfl)) ?_
                             try go_wp2
                             go_roundg k3
                             case measure => have := HK1.out; have := HK2.out; have := HK3.out; omega
                             case rel => exact ⟨(x5_3), (x6_3), (x7_3), (x8_3), (wrap64 (x10_3 + 1)), (by first | rfl | (simp; done) | (simp [*]; done)), (by first | rfl | (simp; done) | (simp [*]; done)), H', ⟨by have := HK1.out; have := HK2.out; have := HK3.out; omega⟩, ⟨by (with_reducible repeat (first | apply Kd.R_alloc | apply Kd.R_drewN | apply Kd.R_drew)); exact HO_5.out⟩, ⟨by (with_reducible repeat (first | apply Kd.R_alloc | apply Kd.R_drewN | apply Kd.R_drew)); exact HO_6.out⟩, ⟨by (with_reducible repeat (first | apply Kd.R_alloc | apply Kd.R_drewN | apply Kd.R_drew)); exact HO_7.out⟩, ⟨by repeat (first | (with_reducible first | exact HB.out | apply below_alloc | apply pw_below_drewN | apply below_drew1) | exact HB.out)⟩⟩
                           · rw [if_neg c17] at H
                             have c17b0 : ((rd x6_3 x10_3) == ((rd_L1 l1 x10_3).length : Int)) = false := beq_eq_false_iff_ne.mpr c17
                             have c17b1 : ((rd x6_3 x10_3) != ((rd_L1 l1 x10_3).length : Int)) = true := bne_iff_ne.mpr c17
                             by_cases c20 : x10_3 < (x7_3.length : Int)
                             · rw [if_pos c20] at H
                               have c20b0 : decide (x10_3 < (x7_3.length : Int)) = true := decide_eq_true c20
                               clear c20
                               obtain ⟨y121, hy121⟩ : ∃ y_ : List Int, y_ = (x7_3.set (x10_3 : Int).toNat (wrap64 ((rd x7_3 x10_3) + a0))) := ⟨_, rfl⟩
                               replace H : (spec_serve.l3 k3 a0 l1 x5_3 x6_3 y121 x8_3 x10_3) = some r := by first | (rw [hy121]; with_reducible exact H) | (have H2_ := (Option.bind_some _ _).symm.trans H; rw [hy121]; with_reducible exact H2_) | (have H2_ := (Option.bind_some _ _).symm.trans H; with_reducible exact H2_) | with_reducible exact H | (rw [hy121]; exact H) | exact H
                               have Ny121 := Aside0.mk hy121
                               clear hy121
                               have H' := Aside0.mk H
                               clear H
                               try go_wp2
                               have n0_ := Aside0.mk (Kd.R_drew HO_5.out)
                               have n1_ := Aside0.mk (Kd.R_drew HO_6.out)
                               have n2_ := Aside0.mk (Kd.R_drew HO_7.out)
                               have n3_ := Aside0.mk (below_drew1 HB.out)
                               clear HO_5
                               clear HO_6
                               clear HO_7
                               clear HB
                               have HO_5 := n0_
                               have HO_6 := n1_
                               have HO_7 := n2_
                               have HB := n3_
                               clear n0_ n1_ n2_ n3_
                               obtain ⟨Ao23, co23, eo23⟩ := Kd.R_slice HO_6.out
                               (first | subst eo23 | (injection eo23 with f1_ f2_ f3_; have f4_ := f1_.symm; have f5_ := f3_.symm; clear f1_ f2_ f3_; subst f4_; subst f5_))
                               have p118 : 0 ≤ (x10_3 : Int) := of_decide_eq_true (by assumption)
                               have q118 : x10_3 < (x6_3.length : Int) := of_decide_eq_true (by assumption)
                               obtain ⟨ad118, e118, hx118_0⟩ := Kd.at_int (Kd.R_reads' HO_6.out).2.2 x10_3 p118 q118
                               cases e118
                               replace p118 := eq_true p118
                               replace q118 := eq_true q118
                               have p119 : 0 ≤ (x10_3 : Int) := of_decide_eq_true (by assumption)
                               have q119 : x10_3 < (l1.length : Int) := of_decide_eq_true (by assumption)
                               obtain ⟨ad119, A119_0, c119_0, e119, hx119_0, hl119_0, hi119_0⟩ := at_L1 HR1.out x10_3 p119 q119
                               have hw119_0 := hx119_0
                               cases e119
                               replace hx119_0 := (HB.out.cell (World.block_lt_of_cell? w _ hx119_0)).trans hx119_0
                               have HR119_0 := Aside0.mk hi119_0
                               have HC119_0 := Aside0.mk hl119_0
                               clear hi119_0 hl119_0
                               replace p119 := eq_true p119
                               replace q119 := eq_true q119
                               refine start_ (n := 10) (S := fun w' => w'.cell? (ad118.add (x10_3).toNat) = some (.int .i64 (rd x6_3 x10_3)) ∧ w'.cell? (ad119.add (x10_3).toNat) = some (.slice A119_0 (rd_L1 l1 x10_3).length c119_0)) (ds := []) #[false, false, false, false, false, false, false, false, false, false] (by kernel_rfl) rfl rfl ⟨hx118_0, ((HB.out.cell (World.block_lt_of_cell? w _ hw119_0)).trans hw119_0)⟩ (fun hHeld => ?_); refine with_tabW spec_serve.tab13 spec_serve.bits13 (fun HT_ HW_ => ?_)
                               generalize wr.drew = w22 at HO_5 HO_6 HO_7 HB HR119_0 hx118_0 hx119_0 hHeld ⊢
                               refine pure_ (i := 0) (N := some 39) (v := ?_) (a' := ?_) #[true, false, false, false, false, false, false, false, false, false] rfl rfl (any_of HT_.out (by kernel_rfl)) (fun _ _ _ h => h) (Or.inl ⟨by rfl, ?_⟩) ?_ ?_
                               rotate_left
                               · intro w'
                                 go_simp
                                 with_reducible rfl
                               rotate_left
                               · simp only [Act.put, List.setIfInBounds_toArray, List.set_cons_zero, List.set_cons_succ, i64_w, i32_w]
                                 rfl
                               refine pure_ (i := 1) (N := some 40) (v := ?_) (a' := ?_) #[true, true, false, false, false, false, false, false, false, false] rfl rfl (any_of HT_.out (by kernel_rfl)) (fun _ _ _ h => h) (Or.inl ⟨by rfl, ?_⟩) ?_ ?_
                               rotate_left
                               · intro w'
                                 go_simp
                                 with_reducible rfl
                               rotate_left
                               · simp only [Act.put, List.setIfInBounds_toArray, List.set_cons_zero, List.set_cons_succ, i64_w, i32_w]
                                 rfl
                               refine pure_ (i := 2) (N := some 41) (v := ?_) (a' := ?_) #[true, true, true, false, false, false, false, false, false, false] rfl rfl (any_of HT_.out (by kernel_rfl)) (fun _ _ _ h => h) (Or.inl ⟨by rfl, ?_⟩) ?_ ?_
                               rotate_left
                               · intro w'
                                 go_simp
                                 with_reducible rfl
                               rotate_left
                               · simp only [Act.put, List.setIfInBounds_toArray, List.set_cons_zero, List.set_cons_succ, i64_w, i32_w]
                                 rfl
                               refine pure_ (i := 4) (N := some 43) (v := ?_) (a' := ?_) #[true, true, true, false, true, false, false, false, false, false] rfl rfl (any_of HT_.out (by kernel_rfl)) (fun _ _ _ h => h) (Or.inl ⟨by rfl, ?_⟩) ?_ ?_
                               rotate_left
                               · intro w'
                                 go_simp
                                 with_reducible rfl
                               rotate_left
                               · simp only [Act.put, List.setIfInBounds_toArray, List.set_cons_zero, List.set_cons_succ, i64_w, i32_w]
                                 rfl
                               refine pure_ (i := 5) (N := some 44) (v := ?_) (a' := ?_) #[true, true, true, false, true, true, false, false, false, false] rfl rfl (any_of HT_.out (by kernel_rfl)) (fun _ _ _ h => h) (Or.inl ⟨by rfl, ?_⟩) ?_ ?_
                               rotate_left
                               · intro w'
                                 go_simp
                                 with_reducible rfl
                               rotate_left
                               · simp only [Act.put, List.setIfInBounds_toArray, List.set_cons_zero, List.set_cons_succ, i64_w, i32_w]
                                 rfl
                               refine pure_ (i := 6) (N := some 45) (v := ?_) (a' := ?_) #[true, true, true, false, true, true, true, false, false, false] rfl rfl (any_of HT_.out (by kernel_rfl)) (fun _ _ _ h => h) (Or.inl ⟨by rfl, ?_⟩) ?_ ?_
                               rotate_left
                               · intro w'
                                 go_simp
                                 with_reducible rfl
                               rotate_left
                               · simp only [Act.put, List.setIfInBounds_toArray, List.set_cons_zero, List.set_cons_succ, i64_w, i32_w]
                                 rfl
                               refine take_ (i := 3) (N := some 42) (v := ?_) (a' := ?_) #[true, true, true, true, true, true, true, false, false, false] rfl rfl (take_ofW HT_.out HW_.out (by kernel_rfl)) (fun _ _ _ h => h) (Or.inl ⟨by rfl, ?_⟩) hHeld ?_ ?_
                               rotate_left
                               · rintro w' ⟨s0, s1⟩
                                 go_simp
                                 with_reducible rfl
                               rotate_left
                               · simp only [Act.put, List.setIfInBounds_toArray, List.set_cons_zero, List.set_cons_succ, i64_w, i32_w]
                                 rfl
                               refine take_ (i := 7) (N := some 46) (v := ?_) (a' := ?_) #[true, true, true, true, true, true, true, true, false, false] rfl rfl (take_ofW HT_.out HW_.out (by kernel_rfl)) (fun _ _ _ h => h) (Or.inl ⟨by rfl, ?_⟩) hHeld ?_ ?_
                               rotate_left
                               · rintro w' ⟨s0, s1⟩
                                 go_simp
                                 with_reducible rfl
                               rotate_left
                               · simp only [Act.put, List.setIfInBounds_toArray, List.set_cons_zero, List.set_cons_succ, i64_w, i32_w]
                                 rfl
                               refine pure_ (i := 8) (N := some 47) (v := ?_) (a' := ?_) #[true, true, true, true, true, true, true, true, true, false] rfl rfl (any_of HT_.out (by kernel_rfl)) (fun _ _ _ h => h) (Or.inl ⟨by rfl, ?_⟩) ?_ ?_
                               rotate_left
                               · intro w'
                                 go_simp
                                 with_reducible rfl
                               rotate_left
                               · simp only [Act.put, List.setIfInBounds_toArray, List.set_cons_zero, List.set_cons_succ, i64_w, i32_w]
                                 rfl
                               refine pure_ (i := 9) (N := some 48) (v := ?_) (a' := ?_) #[true, true, true, true, true, true, true, true, true, true] rfl rfl (any_of HT_.out (by kernel_rfl)) (fun _ _ _ h => h) (Or.inl ⟨by rfl, ?_⟩) ?_ ?_
                               rotate_left
                               · intro w'
                                 go_simp
                                 with_reducible rfl
                               rotate_left
                               · simp only [Act.put, List.setIfInBounds_toArray, List.set_cons_zero, List.set_cons_succ, i64_w, i32_w]
                                 rfl
                               refine done_ (done_of HT_.out (by kernel_rfl)) ?_
                               obtain ⟨Ao24, co24, eo24⟩ := Kd.R_slice HO_7.out
                               subst eo24
                               have p120 : 0 ≤ (x10_3 : Int) := of_decide_eq_true (by assumption)
                               have q120 : x10_3 < (x7_3.length : Int) := of_decide_eq_true (by assumption)
                               obtain ⟨ad120, e120, hx120_0⟩ := Kd.at_int (Kd.R_reads' HO_7.out).2.2 x10_3 p120 q120
                               cases e120
                               replace p120 := eq_true p120
                               replace q120 := eq_true q120
                               have p21 : 0 ≤ (x10_3 : Int) := of_decide_eq_true (by assumption)
                               have q21 : (x10_3 : Int) < ((x7_3.length : Int) : Int) := of_decide_eq_true (by assumption)
                               obtain ⟨go21, co21, eo21, gb21, gl21, cl21, HG21⟩ := Kd.R_form HO_7.out (by omega)
                               (first | cases eo21 | (injection eo21 with ea_ en_ ec_; (first | subst ea_ | (injection ea_ with ea_; subst ea_)); subst ec_; clear en_))
                               have GB21 := Aside0.mk gb21
                               have GG21 := Aside0.mk HG21
                               clear gb21 gl21 HG21
                               (first | simp only [add_plain] at hx120_0 | skip)
                               obtain ⟨hx21_0, hf21_0⟩ := Kd.R_celln 0 HO_7.out (x10_3 : Int) p21 q21
                               replace p21 := eq_true p21
                               replace q21 := eq_true q21
                               obtain ⟨hy25_, hz25_⟩ := Kd.R_celln 0 HO_7.out (x10_3 : Int) (of_decide_eq_true (by assumption)) (of_decide_eq_true (by assumption))
                               have HP25 := Kd.R_putg HO_7.out (x10_3 : Int) (wrap64 ((rd x7_3 x10_3) + a0))
                               try go_wp2_with (first | ((with_reducible refine gate_store (t := 3) (p := 57) rfl ?_); refine store_event (t := 3) (p := 57) (v := ?vo_w26) (w1 := (w22.setCell ⟨go21, (x10_3 : Int).toNat, none⟩ (.int .i64 (wrap64 ((rd x7_3 x10_3) + a0))))) ?hg ?ho ?hn ?hr ?_; (case ho => rfl); (case hg => rfl); (case hn => rfl); (case hr => first | (go_simp; done) | (go_simp; rfl)); intro w26 hw; have hg : w22.grownBy w26 (some go21) := (by rw [hw]; exact HP25.2); have hp_ : Kd.R (Kd.int .i64) 3 w26 w.heap.size (fun k_ => some k_ ≠ (u5 : Value).ownBlock ∧ some k_ ≠ (.slice (some ad118) x6_3.length co23 : Value).ownBlock) (.slice (some ⟨go21, 0, none⟩) x7_3.length co24) y121 := (by rw [hw, Ny121.out]; exact HP25.1); clear HP25; have n0_ := Aside0.mk (Kd.R_after (v := (.slice (some ⟨go21, 0, none⟩) x7_3.length co24)) (v1 := (.slice (some ⟨go21, 0, none⟩) x7_3.length co24)) (ok := (fun k_ => some k_ ≠ (.slice (some ad118) x6_3.length co23 : Value).ownBlock)) (by (with_reducible repeat (first | apply Kd.R_alloc | apply Kd.R_drewN | apply Kd.R_drew)); exact HO_5.out) hg (.inl rfl)); have n1_ := Aside0.mk (Kd.R_after (v := (.slice (some ⟨go21, 0, none⟩) x7_3.length co24)) (v1 := (.slice (some ⟨go21, 0, none⟩) x7_3.length co24)) (ok := (fun k_ => some k_ ≠ (u5 : Value).ownBlock)) (by (with_reducible repeat (first | apply Kd.R_alloc | apply Kd.R_drewN | apply Kd.R_drew)); exact HO_6.out) hg (.inl rfl)); have n2_ := Aside0.mk (hp_); have n3_ := Aside0.mk ((by rw [hw]; exact below_set (HB.out) GB21.out : Below w.heap.size w w26)); clear HO_5; clear HO_6; clear HO_7; clear HB; have HO_5 := n0_; have HO_6 := n1_; have HO_7 := n2_; have HB := n3_; clear n0_ n1_ n2_ n3_; clear hg hw hp_))
                               go_loopg [5, 8] k3 (fun kq v5 v8 w' => ∃ (x5_4 : List Int) (x6_4 : List Int) (x7_4 : List Int) (x8_4 : Int), v8 = .int .i64 x8_4 ∧ Aside0 (spec_serve.l3 kq a0 l1 x5_4 x6_4 x7_4 x8_4 x10_3 = some r) ∧ Aside0 (kq ≤ k3) ∧ Aside0 (Kd.R (Kd.int .i64) 3 w' w.heap.size (fun k_ => some k_ ≠ ((.slice (some ad118) x6_3.length co23) : Value).ownBlock ∧ some k_ ≠ ((.slice (some ⟨go21, 0, none⟩) x7_3.length co24) : Value).ownBlock) v5 x5_4) ∧ Aside0 (Kd.R (Kd.int .i64) 3 w' w.heap.size (fun k_ => some k_ ≠ (v5 : Value).ownBlock ∧ some k_ ≠ ((.slice (some ⟨go21, 0, none⟩) x7_3.length co24) : Value).ownBlock) (.slice (some ad118) x6_3.length co23) x6_4) ∧ Aside0 (Kd.R (Kd.int .i64) 3 w' w.heap.size (fun k_ => some k_ ≠ (v5 : Value).ownBlock ∧ some k_ ≠ ((.slice (some ad118) x6_3.length co23) : Value).ownBlock) (.slice (some ⟨go21, 0, none⟩) x7_3.length co24) x7_4) ∧ Aside0 (Below w.heap.size w w'))
                               case atStart => exact ⟨(x5_3), (x6_3), (y121), (x8_3), (by first | rfl | (simp; done) | (simp [*]; done)), H', ⟨Nat.le_refl _⟩, ⟨by (with_reducible repeat (first | apply Kd.R_alloc | apply Kd.R_drewN | apply Kd.R_drew)); exact HO_5.out⟩, ⟨by (with_reducible repeat (first | apply Kd.R_alloc | apply Kd.R_drewN | apply Kd.R_drew)); exact HO_6.out⟩, ⟨by (with_reducible repeat (first | apply Kd.R_alloc | apply Kd.R_drewN | apply Kd.R_drew)); exact HO_7.out⟩, ⟨by repeat (first | (with_reducible first | exact HB.out | apply below_alloc | apply pw_below_drewN | apply below_drew1) | exact HB.out)⟩⟩
                               case round =>
                                 clear H'
                                 try clear c1
                                 try clear p1
                                 try clear q1
                                 try clear hx1
                                 try clear c2
                                 try clear p2
                                 try clear q2
                                 try clear hx2
                                 try clear hf2
                                 try clear c3
                                 try clear c3b0
                                 try clear c3b1
                                 try clear c4
                                 try clear c4b0
                                 try clear c4b1
                                 try clear p6
                                 try clear c11
                                 try clear c11b0
                                 try clear p11
                                 try clear q11
                                 try clear hx11
                                 try clear c12
                                 try clear c12b0
                                 try clear p12
                                 try clear q12
                                 try clear hx12
                                 try clear c13
                                 try clear c13b0
                                 try clear c14
                                 try clear c14b0
                                 try clear c15
                                 try clear c15b0
                                 try clear c16
                                 try clear c16b0
                                 try clear c17
                                 try clear c17b0
                                 try clear c17b1
                                 try clear c20
                                 try clear c20b0
                                 try clear p21
                                 try clear q21
                                 try clear hx21
                                 try clear hf21
                                 try clear hx117_0
                                 try clear hx118_0
                                 try clear hx119_0
                                 try clear hx120_0
                                 try clear hx21_0
                                 try clear p1
                                 try clear p11
                                 try clear p117
                                 try clear p118
                                 try clear p119
                                 try clear p120
                                 try clear p2
                                 try clear p21
                                 try clear p6
                                 try clear q1
                                 try clear q11
                                 try clear q117
                                 try clear q118
                                 try clear q119
                                 try clear q120
                                 try clear q21
                                 obtain ⟨x5_4, x6_4, x7_4, x8_4, rfl, HA, HK4, HO_5, HO_6, HO_7, HB⟩ := hrel
                                 have hl6_4 := (Kd.R_reads' HO_6.out).1
                                 rw [hl6_4] at HO_6
                                 (try simp only [hl6_4])
                                 (try simp only [hl6_4] at HO_5)
                                 (try simp only [hl6_4] at HO_7)
                                 have hl7_4 := (Kd.R_reads' HO_7.out).1
                                 rw [hl7_4] at HO_7
                                 (try simp only [hl7_4])
                                 (try simp only [hl7_4] at HO_5)
                                 (try simp only [hl7_4] at HO_6)
                                 cases gk with
                                 | zero => exact absurd HA.out (by simp [spec_serve.l3])
                                 | succ k4 =>
                                   have H := HA.out
                                   clear HA
                                   simp only [spec_serve.l3] at H
                                   by_cases c27 : 0 ≤ x10_3
                                   · rw [if_pos c27] at H
                                     have c27b0 : decide (0 ≤ x10_3) = true := decide_eq_true c27
                                     clear c27
                                     by_cases c28 : x10_3 < (x6_4.length : Int)
                                     · rw [if_pos c28] at H
                                       have c28b0 : decide (x10_3 < (x6_4.length : Int)) = true := decide_eq_true c28
                                       clear c28
                                       by_cases c29 : x10_3 < (l1.length : Int)
                                       · rw [if_pos c29] at H
                                         have c29b0 : decide (x10_3 < (l1.length : Int)) = true := decide_eq_true c29
                                         clear c29
                                         by_cases c30 : (rd x6_4 x10_3) < ((rd_L1 l1 x10_3).length : Int)
                                         · rw [if_pos c30] at H
                                           have c30b0 : decide ((rd x6_4 x10_3) < ((rd_L1 l1 x10_3).length : Int)) = true := decide_eq_true c30
                                           clear c30
                                           by_cases c31 : 0 ≤ (rd x6_4 x10_3)
                                           · rw [if_pos c31] at H
                                             have c31b0 : decide (0 ≤ (rd x6_4 x10_3)) = true := decide_eq_true c31
                                             clear c31
                                             by_cases c32 : x10_3 < (x7_4.length : Int)
                                             · rw [if_pos c32] at H
                                               have c32b0 : decide (x10_3 < (x7_4.length : Int)) = true := decide_eq_true c32
                                               clear c32
                                               by_cases c33 : (rd (rd_L1 l1 x10_3) (rd x6_4 x10_3)) ≤ (rd x7_4 x10_3)
                                               · rw [if_pos c33] at H
                                                 have c33b0 : decide ((rd (rd_L1 l1 x10_3) (rd x6_4 x10_3)) ≤ (rd x7_4 x10_3)) = true := decide_eq_true c33
                                                 clear c33
                                                 obtain ⟨y132, hy132⟩ : ∃ y_ : List Int, y_ = (x7_4.set (x10_3 : Int).toNat (wrap64 ((rd x7_4 x10_3) - (rd (rd_L1 l1 x10_3) (rd x6_4 x10_3))))) := ⟨_, rfl⟩
                                                 replace H : (if x5_4.length < 17592186044416 then (spec_serve.l3 k4 a0 l1 (x5_4 ++ [x10_3]) (x6_4.set (x10_3 : Int).toNat (wrap64 ((rd x6_4 x10_3) + 1))) y132 (wrap64 (x8_4 - 1)) x10_3) else (none)) = some r := by first | (rw [hy132]; with_reducible exact H) | (have H2_ := (Option.bind_some _ _).symm.trans H; rw [hy132]; with_reducible exact H2_) | (have H2_ := (Option.bind_some _ _).symm.trans H; with_reducible exact H2_) | with_reducible exact H | (rw [hy132]; exact H) | exact H
                                                 have Ny132 := Aside0.mk hy132
                                                 clear hy132
                                                 obtain ⟨y134, hy134⟩ : ∃ y_ : List Int, y_ = (x6_4.set (x10_3 : Int).toNat (wrap64 ((rd x6_4 x10_3) + 1))) := ⟨_, rfl⟩
                                                 replace H : (if x5_4.length < 17592186044416 then (spec_serve.l3 k4 a0 l1 (x5_4 ++ [x10_3]) y134 y132 (wrap64 (x8_4 - 1)) x10_3) else (none)) = some r := by first | (rw [hy134]; with_reducible exact H) | (have H2_ := (Option.bind_some _ _).symm.trans H; rw [hy134]; with_reducible exact H2_) | (have H2_ := (Option.bind_some _ _).symm.trans H; with_reducible exact H2_) | with_reducible exact H | (rw [hy134]; exact H) | exact H
                                                 have Ny134 := Aside0.mk hy134
                                                 clear hy134
                                                 by_cases c36 : x5_4.length < 17592186044416
                                                 · rw [if_pos c36] at H
                                                   have LMc36 := Aside0.mk c36
                                                   clear c36
                                                   obtain ⟨y135, hy135⟩ : ∃ y_ : List Int, y_ = (x5_4 ++ [x10_3]) := ⟨_, rfl⟩
                                                   replace H : (spec_serve.l3 k4 a0 l1 y135 y134 y132 (wrap64 (x8_4 - 1)) x10_3) = some r := by first | (rw [hy135]; with_reducible exact H) | (have H2_ := (Option.bind_some _ _).symm.trans H; rw [hy135]; with_reducible exact H2_) | (have H2_ := (Option.bind_some _ _).symm.trans H; with_reducible exact H2_) | with_reducible exact H | (rw [hy135]; exact H) | exact H
                                                   have Ny135 := Aside0.mk hy135
                                                   clear hy135
                                                   have H' := Aside0.mk H
                                                   clear H
                                                   try go_wp2
                                                   have n0_ := Aside0.mk (Kd.R_drew HO_5.out)
                                                   have n1_ := Aside0.mk (Kd.R_drew HO_6.out)
                                                   have n2_ := Aside0.mk (Kd.R_drew HO_7.out)
                                                   have n3_ := Aside0.mk (below_drew1 HB.out)
                                                   clear HO_5
                                                   clear HO_6
                                                   clear HO_7
                                                   clear HB
                                                   have HO_5 := n0_
                                                   have HO_6 := n1_
                                                   have HO_7 := n2_
                                                   have HB := n3_
                                                   clear n0_ n1_ n2_ n3_
                                                   have p122 : 0 ≤ (x10_3 : Int) := of_decide_eq_true (by assumption)
                                                   have q122 : x10_3 < (x6_4.length : Int) := of_decide_eq_true (by assumption)
                                                   obtain ⟨ad122, e122, hx122_0⟩ := Kd.at_int (Kd.R_reads' HO_6.out).2.2 x10_3 p122 q122
                                                   obtain rfl : ad118 = ad122 := (by injection e122)
                                                   replace p122 := eq_true p122
                                                   replace q122 := eq_true q122
                                                   have p123 : 0 ≤ (x10_3 : Int) := of_decide_eq_true (by assumption)
                                                   have q123 : x10_3 < (l1.length : Int) := of_decide_eq_true (by assumption)
                                                   obtain ⟨ad123, A123_0, c123_0, e123, hx123_0, hl123_0, hi123_0⟩ := at_L1 HR1.out x10_3 p123 q123
                                                   have hw123_0 := hx123_0
                                                   obtain rfl : ad119 = ad123 := (by injection e123)
                                                   replace hx123_0 := (HB.out.cell (World.block_lt_of_cell? w _ hx123_0)).trans hx123_0
                                                   have HR123_0 := Aside0.mk hi123_0
                                                   have HC123_0 := Aside0.mk hl123_0
                                                   clear hi123_0 hl123_0
                                                   replace p123 := eq_true p123
                                                   replace q123 := eq_true q123
                                                   have p124 : 0 ≤ (x10_3 : Int) := of_decide_eq_true (by assumption)
                                                   have q124 : x10_3 < (l1.length : Int) := of_decide_eq_true (by assumption)
                                                   obtain ⟨ad124, A124_0, c124_0, e124, hx124_0, hl124_0, hi124_0⟩ := at_L1 HR1.out x10_3 p124 q124
                                                   have hw124_0 := hx124_0
                                                   obtain rfl : ad119 = ad124 := (by injection e124)
                                                   replace hx124_0 := (HB.out.cell (World.block_lt_of_cell? w _ hx124_0)).trans hx124_0
                                                   have HR124_0 := Aside0.mk hi124_0
                                                   have HC124_0 := Aside0.mk hl124_0
                                                   clear hi124_0 hl124_0
                                                   replace p124 := eq_true p124
                                                   replace q124 := eq_true q124
                                                   have ea_ := Option.some.inj (hx123_0.symm.trans hx124_0)
                                                   injection ea_ with ea_ en_ ec_
                                                   subst ea_
                                                   subst ec_
                                                   clear en_
                                                   have p125 : 0 ≤ (x10_3 : Int) := of_decide_eq_true (by assumption)
                                                   have q125 : x10_3 < (x6_4.length : Int) := of_decide_eq_true (by assumption)
                                                   obtain ⟨ad125, e125, hx125_0⟩ := Kd.at_int (Kd.R_reads' HO_6.out).2.2 x10_3 p125 q125
                                                   obtain rfl : ad118 = ad125 := (by injection e125)
                                                   replace p125 := eq_true p125
                                                   replace q125 := eq_true q125
                                                   have p126 : 0 ≤ ((rd x6_4 x10_3) : Int) := of_decide_eq_true (by assumption)
                                                   have q126 : (rd x6_4 x10_3) < ((rd_L1 l1 x10_3).length : Int) := of_decide_eq_true (by assumption)
                                                   obtain ⟨ad126, e126, hx126_0⟩ := Kd.at_int HR124_0.out (rd x6_4 x10_3) p126 q126
                                                   have hw126_0 := hx126_0
                                                   cases e126
                                                   replace hx126_0 := (HB.out.cell (World.block_lt_of_cell? w _ hx126_0)).trans hx126_0
                                                   replace p126 := eq_true p126
                                                   replace q126 := eq_true q126
                                                   have p127 : 0 ≤ (x10_3 : Int) := of_decide_eq_true (by assumption)
                                                   have q127 : x10_3 < (x7_4.length : Int) := of_decide_eq_true (by assumption)
                                                   obtain ⟨ad127, e127, hx127_0⟩ := Kd.at_int (Kd.R_reads' HO_7.out).2.2 x10_3 p127 q127
                                                   obtain rfl : (⟨go21, 0, none⟩ : Addr) = ad127 := (by injection e127)
                                                   (first | simp only [add_plain] at hx127_0 | simp only [add_at] at hx127_0 | simp only [Addr.add, Nat.zero_add] at hx127_0 | skip)
                                                   replace p127 := eq_true p127
                                                   replace q127 := eq_true q127
                                                   refine start_ (n := 27) (S := fun w' => w'.cell? (ad118.add (x10_3).toNat) = some (.int .i64 (rd x6_4 x10_3)) ∧ w'.cell? (ad119.add (x10_3).toNat) = some (.slice (some ad126) (rd_L1 l1 x10_3).length c123_0) ∧ w'.cell? (ad119.add (x10_3).toNat) = some (.slice (some ad126) (rd_L1 l1 x10_3).length c123_0) ∧ w'.cell? (ad118.add (x10_3).toNat) = some (.int .i64 (rd x6_4 x10_3)) ∧ w'.cell? (ad126.add ((rd x6_4 x10_3)).toNat) = some (.int .i64 (rd (rd_L1 l1 x10_3) (rd x6_4 x10_3))) ∧ w'.cell? ⟨go21, (x10_3).toNat, none⟩ = some (.int .i64 (rd x7_4 x10_3))) (ds := []) #[false, false, false, false, false, false, false, false, false, false, false, false, false, false, false, false, false, false, false, false, false, false, false, false, false, false, false] (by kernel_rfl) rfl rfl ⟨hx122_0, ((HB.out.cell (World.block_lt_of_cell? w _ hw123_0)).trans hw123_0), ((HB.out.cell (World.block_lt_of_cell? w _ hw124_0)).trans hw124_0), hx125_0, ((HB.out.cell (World.block_lt_of_cell? w _ hw126_0)).trans hw126_0), hx127_0⟩ (fun hHeld => ?_); refine with_tabW spec_serve.tab15 spec_serve.bits15 (fun HT_ HW_ => ?_)
                                                   generalize wr.drew = w37 at HO_5 HO_6 HO_7 HB HR123_0 HR124_0 hx122_0 hx123_0 hx124_0 hx125_0 hx126_0 hx127_0 hHeld ⊢
                                                   refine pure_ (i := 0) (N := some 58) (v := ?_) (a' := ?_) #[true, false, false, false, false, false, false, false, false, false, false, false, false, false, false, false, false, false, false, false, false, false, false, false, false, false, false] rfl rfl (any_of HT_.out (by kernel_rfl)) (fun _ _ _ h => h) (Or.inl ⟨by rfl, ?_⟩) ?_ ?_
                                                   rotate_left
                                                   · intro w'
                                                     go_simp
                                                     with_reducible rfl
                                                   rotate_left
                                                   · simp only [Act.put, List.setIfInBounds_toArray, List.set_cons_zero, List.set_cons_succ, i64_w, i32_w]
                                                     rfl
                                                   refine pure_ (i := 1) (N := some 59) (v := ?_) (a' := ?_) #[true, true, false, false, false, false, false, false, false, false, false, false, false, false, false, false, false, false, false, false, false, false, false, false, false, false, false] rfl rfl (any_of HT_.out (by kernel_rfl)) (fun _ _ _ h => h) (Or.inl ⟨by rfl, ?_⟩) ?_ ?_
                                                   rotate_left
                                                   · intro w'
                                                     go_simp
                                                     with_reducible rfl
                                                   rotate_left
                                                   · simp only [Act.put, List.setIfInBounds_toArray, List.set_cons_zero, List.set_cons_succ, i64_w, i32_w]
                                                     rfl
                                                   refine pure_ (i := 2) (N := some 60) (v := ?_) (a' := ?_) #[true, true, true, false, false, false, false, false, false, false, false, false, false, false, false, false, false, false, false, false, false, false, false, false, false, false, false] rfl rfl (any_of HT_.out (by kernel_rfl)) (fun _ _ _ h => h) (Or.inl ⟨by rfl, ?_⟩) ?_ ?_
                                                   rotate_left
                                                   · intro w'
                                                     go_simp
                                                     with_reducible rfl
                                                   rotate_left
                                                   · simp only [Act.put, List.setIfInBounds_toArray, List.set_cons_zero, List.set_cons_succ, i64_w, i32_w]
                                                     rfl
                                                   refine pure_ (i := 4) (N := some 62) (v := ?_) (a' := ?_) #[true, true, true, false, true, false, false, false, false, false, false, false, false, false, false, false, false, false, false, false, false, false, false, false, false, false, false] rfl rfl (any_of HT_.out (by kernel_rfl)) (fun _ _ _ h => h) (Or.inl ⟨by rfl, ?_⟩) ?_ ?_
                                                   rotate_left
                                                   · intro w'
                                                     go_simp
                                                     with_reducible rfl
                                                   rotate_left
                                                   · simp only [Act.put, List.setIfInBounds_toArray, List.set_cons_zero, List.set_cons_succ, i64_w, i32_w]
                                                     rfl
                                                   refine pure_ (i := 5) (N := some 63) (v := ?_) (a' := ?_) #[true, true, true, false, true, true, false, false, false, false, false, false, false, false, false, false, false, false, false, false, false, false, false, false, false, false, false] rfl rfl (any_of HT_.out (by kernel_rfl)) (fun _ _ _ h => h) (Or.inl ⟨by rfl, ?_⟩) ?_ ?_
                                                   rotate_left
                                                   · intro w'
                                                     go_simp
                                                     with_reducible rfl
                                                   rotate_left
                                                   · simp only [Act.put, List.setIfInBounds_toArray, List.set_cons_zero, List.set_cons_succ, i64_w, i32_w]
                                                     rfl
                                                   refine pure_ (i := 6) (N := some 64) (v := ?_) (a' := ?_) #[true, true, true, false, true, true, true, false, false, false, false, false, false, false, false, false, false, false, false, false, false, false, false, false, false, false, false] rfl rfl (any_of HT_.out (by kernel_rfl)) (fun _ _ _ h => h) (Or.inl ⟨by rfl, ?_⟩) ?_ ?_
                                                   rotate_left
                                                   · intro w'
                                                     go_simp
                                                     with_reducible rfl
                                                   rotate_left
                                                   · simp only [Act.put, List.setIfInBounds_toArray, List.set_cons_zero, List.set_cons_succ, i64_w, i32_w]
                                                     rfl
                                                   refine take_ (i := 3) (N := some 61) (v := ?_) (a' := ?_) #[true, true, true, true, true, true, true, false, false, false, false, false, false, false, false, false, false, false, false, false, false, false, false, false, false, false, false] rfl rfl (take_ofW HT_.out HW_.out (by kernel_rfl)) (fun _ _ _ h => h) (Or.inl ⟨by rfl, ?_⟩) hHeld ?_ ?_
                                                   rotate_left
                                                   · rintro w' ⟨s0, s1, s2, s3, s4, s5⟩
                                                     go_simp
                                                     with_reducible rfl
                                                   rotate_left
                                                   · simp only [Act.put, List.setIfInBounds_toArray, List.set_cons_zero, List.set_cons_succ, i64_w, i32_w]
                                                     rfl
                                                   refine take_ (i := 7) (N := some 65) (v := ?_) (a' := ?_) #[true, true, true, true, true, true, true, true, false, false, false, false, false, false, false, false, false, false, false, false, false, false, false, false, false, false, false] rfl rfl (take_ofW HT_.out HW_.out (by kernel_rfl)) (fun _ _ _ h => h) (Or.inl ⟨by rfl, ?_⟩) hHeld ?_ ?_
                                                   rotate_left
                                                   · rintro w' ⟨s0, s1, s2, s3, s4, s5⟩
                                                     go_simp
                                                     with_reducible rfl
                                                   rotate_left
                                                   · simp only [Act.put, List.setIfInBounds_toArray, List.set_cons_zero, List.set_cons_succ, i64_w, i32_w]
                                                     rfl
                                                   refine pure_ (i := 8) (N := some 66) (v := ?_) (a' := ?_) #[true, true, true, true, true, true, true, true, true, false, false, false, false, false, false, false, false, false, false, false, false, false, false, false, false, false, false] rfl rfl (any_of HT_.out (by kernel_rfl)) (fun _ _ _ h => h) (Or.inl ⟨by rfl, ?_⟩) ?_ ?_
                                                   rotate_left
                                                   · intro w'
                                                     go_simp
                                                     with_reducible rfl
                                                   rotate_left
                                                   · simp only [Act.put, List.setIfInBounds_toArray, List.set_cons_zero, List.set_cons_succ, i64_w, i32_w]
                                                     rfl
                                                   refine pure_ (i := 9) (N := some 67) (v := ?_) (a' := ?_) #[true, true, true, true, true, true, true, true, true, true, false, false, false, false, false, false, false, false, false, false, false, false, false, false, false, false, false] rfl rfl (any_of HT_.out (by kernel_rfl)) (fun _ _ _ h => h) (Or.inl ⟨by rfl, ?_⟩) ?_ ?_
                                                   rotate_left
                                                   · intro w'
                                                     go_simp
                                                     with_reducible rfl
                                                   rotate_left
                                                   · simp only [Act.put, List.setIfInBounds_toArray, List.set_cons_zero, List.set_cons_succ, i64_w, i32_w]
                                                     rfl
                                                   refine pure_ (i := 10) (N := some 68) (v := ?_) (a' := ?_) #[true, true, true, true, true, true, true, true, true, true, true, false, false, false, false, false, false, false, false, false, false, false, false, false, false, false, false] rfl rfl (any_of HT_.out (by kernel_rfl)) (fun _ _ _ h => h) (Or.inl ⟨by rfl, ?_⟩) ?_ ?_
                                                   rotate_left
                                                   · intro w'
                                                     go_simp
                                                     with_reducible rfl
                                                   rotate_left
                                                   · simp only [Act.put, List.setIfInBounds_toArray, List.set_cons_zero, List.set_cons_succ, i64_w, i32_w]
                                                     rfl
                                                   refine pure_ (i := 11) (N := some 69) (v := ?_) (a' := ?_) #[true, true, true, true, true, true, true, true, true, true, true, true, false, false, false, false, false, false, false, false, false, false, false, false, false, false, false] rfl rfl (any_of HT_.out (by kernel_rfl)) (fun _ _ _ h => h) (Or.inl ⟨by rfl, ?_⟩) ?_ ?_
                                                   rotate_left
                                                   · intro w'
                                                     go_simp
                                                     with_reducible rfl
                                                   rotate_left
                                                   · simp only [Act.put, List.setIfInBounds_toArray, List.set_cons_zero, List.set_cons_succ, i64_w, i32_w]
                                                     rfl
                                                   refine pure_ (i := 12) (N := some 70) (v := ?_) (a' := ?_) #[true, true, true, true, true, true, true, true, true, true, true, true, true, false, false, false, false, false, false, false, false, false, false, false, false, false, false] rfl rfl (any_of HT_.out (by kernel_rfl)) (fun _ _ _ h => h) (Or.inl ⟨by rfl, ?_⟩) ?_ ?_
                                                   rotate_left
                                                   · intro w'
                                                     go_simp
                                                     with_reducible rfl
                                                   rotate_left
                                                   · simp only [Act.put, List.setIfInBounds_toArray, List.set_cons_zero, List.set_cons_succ, i64_w, i32_w]
                                                     rfl
                                                   refine pure_ (i := 13) (N := some 71) (v := ?_) (a' := ?_) #[true, true, true, true, true, true, true, true, true, true, true, true, true, true, false, false, false, false, false, false, false, false, false, false, false, false, false] rfl rfl (any_of HT_.out (by kernel_rfl)) (fun _ _ _ h => h) (Or.inl ⟨by rfl, ?_⟩) ?_ ?_
                                                   rotate_left
                                                   · intro w'
                                                     go_simp
                                                     with_reducible rfl
                                                   rotate_left
                                                   · simp only [Act.put, List.setIfInBounds_toArray, List.set_cons_zero, List.set_cons_succ, i64_w, i32_w]
                                                     rfl
                                                   refine pure_ (i := 15) (N := some 73) (v := ?_) (a' := ?_) #[true, true, true, true, true, true, true, true, true, true, true, true, true, true, false, true, false, false, false, false, false, false, false, false, false, false, false] rfl rfl (any_of HT_.out (by kernel_rfl)) (fun _ _ _ h => h) (Or.inl ⟨by rfl, ?_⟩) ?_ ?_
                                                   rotate_left
                                                   · intro w'
                                                     go_simp
                                                     with_reducible rfl
                                                   rotate_left
                                                   · simp only [Act.put, List.setIfInBounds_toArray, List.set_cons_zero, List.set_cons_succ, i64_w, i32_w]
                                                     rfl
                                                   refine pure_ (i := 16) (N := some 74) (v := ?_) (a' := ?_) #[true, true, true, true, true, true, true, true, true, true, true, true, true, true, false, true, true, false, false, false, false, false, false, false, false, false, false] rfl rfl (any_of HT_.out (by kernel_rfl)) (fun _ _ _ h => h) (Or.inl ⟨by rfl, ?_⟩) ?_ ?_
                                                   rotate_left
                                                   · intro w'
                                                     go_simp
                                                     with_reducible rfl
                                                   rotate_left
                                                   · simp only [Act.put, List.setIfInBounds_toArray, List.set_cons_zero, List.set_cons_succ, i64_w, i32_w]
                                                     rfl
                                                   refine pure_ (i := 17) (N := some 75) (v := ?_) (a' := ?_) #[true, true, true, true, true, true, true, true, true, true, true, true, true, true, false, true, true, true, false, false, false, false, false, false, false, false, false] rfl rfl (any_of HT_.out (by kernel_rfl)) (fun _ _ _ h => h) (Or.inl ⟨by rfl, ?_⟩) ?_ ?_
                                                   rotate_left
                                                   · intro w'
                                                     go_simp
                                                     with_reducible rfl
                                                   rotate_left
                                                   · simp only [Act.put, List.setIfInBounds_toArray, List.set_cons_zero, List.set_cons_succ, i64_w, i32_w]
                                                     rfl
                                                   refine pure_ (i := 21) (N := some 79) (v := ?_) (a' := ?_) #[true, true, true, true, true, true, true, true, true, true, true, true, true, true, false, true, true, true, false, false, false, true, false, false, false, false, false] rfl rfl (any_of HT_.out (by kernel_rfl)) (fun _ _ _ h => h) (Or.inl ⟨by rfl, ?_⟩) ?_ ?_
                                                   rotate_left
                                                   · intro w'
                                                     go_simp
                                                     with_reducible rfl
                                                   rotate_left
                                                   · simp only [Act.put, List.setIfInBounds_toArray, List.set_cons_zero, List.set_cons_succ, i64_w, i32_w]
                                                     rfl
                                                   refine pure_ (i := 22) (N := some 80) (v := ?_) (a' := ?_) #[true, true, true, true, true, true, true, true, true, true, true, true, true, true, false, true, true, true, false, false, false, true, true, false, false, false, false] rfl rfl (any_of HT_.out (by kernel_rfl)) (fun _ _ _ h => h) (Or.inl ⟨by rfl, ?_⟩) ?_ ?_
                                                   rotate_left
                                                   · intro w'
                                                     go_simp
                                                     with_reducible rfl
                                                   rotate_left
                                                   · simp only [Act.put, List.setIfInBounds_toArray, List.set_cons_zero, List.set_cons_succ, i64_w, i32_w]
                                                     rfl
                                                   refine pure_ (i := 23) (N := some 81) (v := ?_) (a' := ?_) #[true, true, true, true, true, true, true, true, true, true, true, true, true, true, false, true, true, true, false, false, false, true, true, true, false, false, false] rfl rfl (any_of HT_.out (by kernel_rfl)) (fun _ _ _ h => h) (Or.inl ⟨by rfl, ?_⟩) ?_ ?_
                                                   rotate_left
                                                   · intro w'
                                                     go_simp
                                                     with_reducible rfl
                                                   rotate_left
                                                   · simp only [Act.put, List.setIfInBounds_toArray, List.set_cons_zero, List.set_cons_succ, i64_w, i32_w]
                                                     rfl
                                                   refine take_ (i := 14) (N := some 72) (v := ?_) (a' := ?_) #[true, true, true, true, true, true, true, true, true, true, true, true, true, true, true, true, true, true, false, false, false, true, true, true, false, false, false] rfl rfl (take_ofW HT_.out HW_.out (by kernel_rfl)) (fun _ _ _ h => h) (Or.inl ⟨by rfl, ?_⟩) hHeld ?_ ?_
                                                   rotate_left
                                                   · rintro w' ⟨s0, s1, s2, s3, s4, s5⟩
                                                     go_simp
                                                     with_reducible rfl
                                                   rotate_left
                                                   · simp only [Act.put, List.setIfInBounds_toArray, List.set_cons_zero, List.set_cons_succ, i64_w, i32_w]
                                                     rfl
                                                   refine take_ (i := 18) (N := some 76) (v := ?_) (a' := ?_) #[true, true, true, true, true, true, true, true, true, true, true, true, true, true, true, true, true, true, true, false, false, true, true, true, false, false, false] rfl rfl (take_ofW HT_.out HW_.out (by kernel_rfl)) (fun _ _ _ h => h) (Or.inl ⟨by rfl, ?_⟩) hHeld ?_ ?_
                                                   rotate_left
                                                   · rintro w' ⟨s0, s1, s2, s3, s4, s5⟩
                                                     go_simp
                                                     with_reducible rfl
                                                   rotate_left
                                                   · simp only [Act.put, List.setIfInBounds_toArray, List.set_cons_zero, List.set_cons_succ, i64_w, i32_w]
                                                     rfl
                                                   refine pure_ (i := 19) (N := some 77) (v := ?_) (a' := ?_) #[true, true, true, true, true, true, true, true, true, true, true, true, true, true, true, true, true, true, true, true, false, true, true, true, false, false, false] rfl rfl (any_of HT_.out (by kernel_rfl)) (fun _ _ _ h => h) (Or.inl ⟨by rfl, ?_⟩) ?_ ?_
                                                   rotate_left
                                                   · intro w'
                                                     go_simp
                                                     with_reducible rfl
                                                   rotate_left
                                                   · simp only [Act.put, List.setIfInBounds_toArray, List.set_cons_zero, List.set_cons_succ, i64_w, i32_w]
                                                     rfl
                                                   refine take_ (i := 20) (N := some 78) (v := ?_) (a' := ?_) #[true, true, true, true, true, true, true, true, true, true, true, true, true, true, true, true, true, true, true, true, true, true, true, true, false, false, false] rfl rfl (take_ofW HT_.out HW_.out (by kernel_rfl)) (fun _ _ _ h => h) (Or.inl ⟨by rfl, ?_⟩) hHeld ?_ ?_
                                                   rotate_left
                                                   · rintro w' ⟨s0, s1, s2, s3, s4, s5⟩
                                                     go_simp
                                                     with_reducible rfl
                                                   rotate_left
                                                   · simp only [Act.put, List.setIfInBounds_toArray, List.set_cons_zero, List.set_cons_succ, i64_w, i32_w]
                                                     rfl
                                                   refine take_ (i := 24) (N := some 82) (v := ?_) (a' := ?_) #[true, true, true, true, true, true, true, true, true, true, true, true, true, true, true, true, true, true, true, true, true, true, true, true, true, false, false] rfl rfl (take_ofW HT_.out HW_.out (by kernel_rfl)) (fun _ _ _ h => h) (Or.inl ⟨by rfl, ?_⟩) hHeld ?_ ?_
                                                   rotate_left
                                                   · rintro w' ⟨s0, s1, s2, s3, s4, s5⟩
                                                     go_simp
                                                     with_reducible rfl
                                                   rotate_left
                                                   · simp only [Act.put, List.setIfInBounds_toArray, List.set_cons_zero, List.set_cons_succ, i64_w, i32_w]
                                                     rfl
                                                   refine pure_ (i := 25) (N := some 83) (v := ?_) (a' := ?_) #[true, true, true, true, true, true, true, true, true, true, true, true, true, true, true, true, true, true, true, true, true, true, true, true, true, true, false] rfl rfl (any_of HT_.out (by kernel_rfl)) (fun _ _ _ h => h) (Or.inl ⟨by rfl, ?_⟩) ?_ ?_
                                                   rotate_left
                                                   · intro w'
                                                     go_simp
                                                     with_reducible rfl
                                                   rotate_left
                                                   · simp only [Act.put, List.setIfInBounds_toArray, List.set_cons_zero, List.set_cons_succ, i64_w, i32_w]
                                                     rfl
                                                   refine pure_ (i := 26) (N := some 84) (v := ?_) (a' := ?_) #[true, true, true, true, true, true, true, true, true, true, true, true, true, true, true, true, true, true, true, true, true, true, true, true, true, true, true] rfl rfl (any_of HT_.out (by kernel_rfl)) (fun _ _ _ h => h) (Or.inl ⟨by rfl, ?_⟩) ?_ ?_
                                                   rotate_left
                                                   · intro w'
                                                     go_simp
                                                     with_reducible rfl
                                                   rotate_left
                                                   · simp only [Act.put, List.setIfInBounds_toArray, List.set_cons_zero, List.set_cons_succ, i64_w, i32_w]
                                                     rfl
                                                   refine done_ (done_of HT_.out (by kernel_rfl)) ?_
                                                   try go_wp2
                                                   have n0_ := Aside0.mk (Kd.R_drew HO_5.out)
                                                   have n1_ := Aside0.mk (Kd.R_drew HO_6.out)
                                                   have n2_ := Aside0.mk (Kd.R_drew HO_7.out)
                                                   have n3_ := Aside0.mk (below_drew1 HB.out)
                                                   clear HO_5
                                                   clear HO_6
                                                   clear HO_7
                                                   clear HB
                                                   have HO_5 := n0_
                                                   have HO_6 := n1_
                                                   have HO_7 := n2_
                                                   have HB := n3_
                                                   clear n0_ n1_ n2_ n3_
                                                   have p128 : 0 ≤ (x10_3 : Int) := of_decide_eq_true (by assumption)
                                                   have q128 : x10_3 < (x7_4.length : Int) := of_decide_eq_true (by assumption)
                                                   obtain ⟨ad128, e128, hx128_0⟩ := Kd.at_int (Kd.R_reads' HO_7.out).2.2 x10_3 p128 q128
                                                   obtain rfl : (⟨go21, 0, none⟩ : Addr) = ad128 := (by injection e128)
                                                   (first | simp only [add_plain] at hx128_0 | simp only [add_at] at hx128_0 | simp only [Addr.add, Nat.zero_add] at hx128_0 | skip)
                                                   replace p128 := eq_true p128
                                                   replace q128 := eq_true q128
                                                   have p129 : 0 ≤ (x10_3 : Int) := of_decide_eq_true (by assumption)
                                                   have q129 : x10_3 < (l1.length : Int) := of_decide_eq_true (by assumption)
                                                   obtain ⟨ad129, A129_0, c129_0, e129, hx129_0, hl129_0, hi129_0⟩ := at_L1 HR1.out x10_3 p129 q129
                                                   have hw129_0 := hx129_0
                                                   obtain rfl : ad119 = ad129 := (by injection e129)
                                                   replace hx129_0 := (HB.out.cell (World.block_lt_of_cell? w _ hx129_0)).trans hx129_0
                                                   have HR129_0 := Aside0.mk hi129_0
                                                   have HC129_0 := Aside0.mk hl129_0
                                                   clear hi129_0 hl129_0
                                                   replace p129 := eq_true p129
                                                   replace q129 := eq_true q129
                                                   have p130 : 0 ≤ (x10_3 : Int) := of_decide_eq_true (by assumption)
                                                   have q130 : x10_3 < (x6_4.length : Int) := of_decide_eq_true (by assumption)
                                                   obtain ⟨ad130, e130, hx130_0⟩ := Kd.at_int (Kd.R_reads' HO_6.out).2.2 x10_3 p130 q130
                                                   obtain rfl : ad118 = ad130 := (by injection e130)
                                                   replace p130 := eq_true p130
                                                   replace q130 := eq_true q130
                                                   have p131 : 0 ≤ ((rd x6_4 x10_3) : Int) := of_decide_eq_true (by assumption)
                                                   have q131 : (rd x6_4 x10_3) < ((rd_L1 l1 x10_3).length : Int) := of_decide_eq_true (by assumption)
                                                   obtain ⟨ad131, e131, hx131_0⟩ := Kd.at_int HR129_0.out (rd x6_4 x10_3) p131 q131
                                                   have hw131_0 := hx131_0
                                                   cases e131
                                                   replace hx131_0 := (HB.out.cell (World.block_lt_of_cell? w _ hx131_0)).trans hx131_0
                                                   replace p131 := eq_true p131
                                                   replace q131 := eq_true q131
                                                   have p34 : 0 ≤ (x10_3 : Int) := of_decide_eq_true (by assumption)
                                                   have q34 : (x10_3 : Int) < ((x7_4.length : Int) : Int) := of_decide_eq_true (by assumption)
                                                   obtain ⟨hx34_0, hf34_0⟩ := Kd.R_celln 0 HO_7.out (x10_3 : Int) p34 q34
                                                   replace p34 := eq_true p34
                                                   replace q34 := eq_true q34
                                                   have HP39 := Kd.R_putn HO_7.out (x10_3 : Int) (wrap64 ((rd x7_4 x10_3) - (rd (rd_L1 l1 x10_3) (rd x6_4 x10_3))))
                                                   rw [← Ny132.out] at HP39
                                                   have HQ39 := Aside0.mk HP39
                                                   clear HP39
                                                   refine start_ (n := 19) (S := fun w' => w'.cell? ⟨go21, (x10_3).toNat, none⟩ = some (.int .i64 (rd x7_4 x10_3)) ∧ w'.cell? (ad119.add (x10_3).toNat) = some (.slice (some ad131) (rd_L1 l1 x10_3).length c129_0) ∧ w'.cell? (ad118.add (x10_3).toNat) = some (.int .i64 (rd x6_4 x10_3)) ∧ w'.cell? (ad131.add ((rd x6_4 x10_3)).toNat) = some (.int .i64 (rd (rd_L1 l1 x10_3) (rd x6_4 x10_3)))) (ds := [18]) #[false, false, false, false, false, false, false, false, false, false, false, false, false, false, false, false, false, false, false] (by kernel_rfl) rfl rfl ⟨hx128_0, ((HB.out.cell (World.block_lt_of_cell? w _ hw129_0)).trans hw129_0), hx130_0, ((HB.out.cell (World.block_lt_of_cell? w _ hw131_0)).trans hw131_0)⟩ (fun hHeld => ?_); refine with_tabW spec_serve.tab16 spec_serve.bits16 (fun HT_ HW_ => ?_)
                                                   generalize w37.drew = w38 at HO_5 HO_6 HO_7 HB HQ39 HR129_0 hf34_0 hx128_0 hx129_0 hx130_0 hx131_0 hx34_0 hHeld ⊢
                                                   refine pure_ (i := 0) (N := some 85) (v := ?_) (a' := ?_) #[true, false, false, false, false, false, false, false, false, false, false, false, false, false, false, false, false, false, false] rfl rfl (any_of HT_.out (by kernel_rfl)) (fun _ _ _ h => h) (Or.inl ⟨by rfl, ?_⟩) ?_ ?_
                                                   rotate_left
                                                   · intro w'
                                                     go_simp
                                                     with_reducible rfl
                                                   rotate_left
                                                   · simp only [Act.put, List.setIfInBounds_toArray, List.set_cons_zero, List.set_cons_succ, i64_w, i32_w]
                                                     rfl
                                                   refine pure_ (i := 1) (N := some 86) (v := ?_) (a' := ?_) #[true, true, false, false, false, false, false, false, false, false, false, false, false, false, false, false, false, false, false] rfl rfl (any_of HT_.out (by kernel_rfl)) (fun _ _ _ h => h) (Or.inl ⟨by rfl, ?_⟩) ?_ ?_
                                                   rotate_left
                                                   · intro w'
                                                     go_simp
                                                     with_reducible rfl
                                                   rotate_left
                                                   · simp only [Act.put, List.setIfInBounds_toArray, List.set_cons_zero, List.set_cons_succ, i64_w, i32_w]
                                                     rfl
                                                   refine pure_ (i := 2) (N := some 87) (v := ?_) (a' := ?_) #[true, true, true, false, false, false, false, false, false, false, false, false, false, false, false, false, false, false, false] rfl rfl (any_of HT_.out (by kernel_rfl)) (fun _ _ _ h => h) (Or.inl ⟨by rfl, ?_⟩) ?_ ?_
                                                   rotate_left
                                                   · intro w'
                                                     go_simp
                                                     with_reducible rfl
                                                   rotate_left
                                                   · simp only [Act.put, List.setIfInBounds_toArray, List.set_cons_zero, List.set_cons_succ, i64_w, i32_w]
                                                     rfl
                                                   refine pure_ (i := 3) (N := some 88) (v := ?_) (a' := ?_) #[true, true, true, true, false, false, false, false, false, false, false, false, false, false, false, false, false, false, false] rfl rfl (any_of HT_.out (by kernel_rfl)) (fun _ _ _ h => h) (Or.inl ⟨by rfl, ?_⟩) ?_ ?_
                                                   rotate_left
                                                   · intro w'
                                                     go_simp
                                                     with_reducible rfl
                                                   rotate_left
                                                   · simp only [Act.put, List.setIfInBounds_toArray, List.set_cons_zero, List.set_cons_succ, i64_w, i32_w]
                                                     rfl
                                                   refine pure_ (i := 4) (N := some 89) (v := ?_) (a' := ?_) #[true, true, true, true, true, false, false, false, false, false, false, false, false, false, false, false, false, false, false] rfl rfl (any_of HT_.out (by kernel_rfl)) (fun _ _ _ h => h) (Or.inl ⟨by rfl, ?_⟩) ?_ ?_
                                                   rotate_left
                                                   · intro w'
                                                     go_simp
                                                     with_reducible rfl
                                                   rotate_left
                                                   · simp only [Act.put, List.setIfInBounds_toArray, List.set_cons_zero, List.set_cons_succ, i64_w, i32_w]
                                                     rfl
                                                   refine pure_ (i := 6) (N := some 91) (v := ?_) (a' := ?_) #[true, true, true, true, true, false, true, false, false, false, false, false, false, false, false, false, false, false, false] rfl rfl (any_of HT_.out (by kernel_rfl)) (fun _ _ _ h => h) (Or.inl ⟨by rfl, ?_⟩) ?_ ?_
                                                   rotate_left
                                                   · intro w'
                                                     go_simp
                                                     with_reducible rfl
                                                   rotate_left
                                                   · simp only [Act.put, List.setIfInBounds_toArray, List.set_cons_zero, List.set_cons_succ, i64_w, i32_w]
                                                     rfl
                                                   refine pure_ (i := 7) (N := some 92) (v := ?_) (a' := ?_) #[true, true, true, true, true, false, true, true, false, false, false, false, false, false, false, false, false, false, false] rfl rfl (any_of HT_.out (by kernel_rfl)) (fun _ _ _ h => h) (Or.inl ⟨by rfl, ?_⟩) ?_ ?_
                                                   rotate_left
                                                   · intro w'
                                                     go_simp
                                                     with_reducible rfl
                                                   rotate_left
                                                   · simp only [Act.put, List.setIfInBounds_toArray, List.set_cons_zero, List.set_cons_succ, i64_w, i32_w]
                                                     rfl
                                                   refine pure_ (i := 8) (N := some 93) (v := ?_) (a' := ?_) #[true, true, true, true, true, false, true, true, true, false, false, false, false, false, false, false, false, false, false] rfl rfl (any_of HT_.out (by kernel_rfl)) (fun _ _ _ h => h) (Or.inl ⟨by rfl, ?_⟩) ?_ ?_
                                                   rotate_left
                                                   · intro w'
                                                     go_simp
                                                     with_reducible rfl
                                                   rotate_left
                                                   · simp only [Act.put, List.setIfInBounds_toArray, List.set_cons_zero, List.set_cons_succ, i64_w, i32_w]
                                                     rfl
                                                   refine pure_ (i := 10) (N := some 95) (v := ?_) (a' := ?_) #[true, true, true, true, true, false, true, true, true, false, true, false, false, false, false, false, false, false, false] rfl rfl (any_of HT_.out (by kernel_rfl)) (fun _ _ _ h => h) (Or.inl ⟨by rfl, ?_⟩) ?_ ?_
                                                   rotate_left
                                                   · intro w'
                                                     go_simp
                                                     with_reducible rfl
                                                   rotate_left
                                                   · simp only [Act.put, List.setIfInBounds_toArray, List.set_cons_zero, List.set_cons_succ, i64_w, i32_w]
                                                     rfl
                                                   refine pure_ (i := 11) (N := some 96) (v := ?_) (a' := ?_) #[true, true, true, true, true, false, true, true, true, false, true, true, false, false, false, false, false, false, false] rfl rfl (any_of HT_.out (by kernel_rfl)) (fun _ _ _ h => h) (Or.inl ⟨by rfl, ?_⟩) ?_ ?_
                                                   rotate_left
                                                   · intro w'
                                                     go_simp
                                                     with_reducible rfl
                                                   rotate_left
                                                   · simp only [Act.put, List.setIfInBounds_toArray, List.set_cons_zero, List.set_cons_succ, i64_w, i32_w]
                                                     rfl
                                                   refine pure_ (i := 12) (N := some 97) (v := ?_) (a' := ?_) #[true, true, true, true, true, false, true, true, true, false, true, true, true, false, false, false, false, false, false] rfl rfl (any_of HT_.out (by kernel_rfl)) (fun _ _ _ h => h) (Or.inl ⟨by rfl, ?_⟩) ?_ ?_
                                                   rotate_left
                                                   · intro w'
                                                     go_simp
                                                     with_reducible rfl
                                                   rotate_left
                                                   · simp only [Act.put, List.setIfInBounds_toArray, List.set_cons_zero, List.set_cons_succ, i64_w, i32_w]
                                                     rfl
                                                   refine take_ (i := 5) (N := some 90) (v := ?_) (a' := ?_) #[true, true, true, true, true, true, true, true, true, false, true, true, true, false, false, false, false, false, false] rfl rfl (take_ofW HT_.out HW_.out (by kernel_rfl)) (fun _ _ _ h => h) (Or.inl ⟨by rfl, ?_⟩) hHeld ?_ ?_
                                                   rotate_left
                                                   · rintro w' ⟨s0, s1, s2, s3⟩
                                                     go_simp
                                                     with_reducible rfl
                                                   rotate_left
                                                   · simp only [Act.put, List.setIfInBounds_toArray, List.set_cons_zero, List.set_cons_succ, i64_w, i32_w]
                                                     rfl
                                                   refine take_ (i := 9) (N := some 94) (v := ?_) (a' := ?_) #[true, true, true, true, true, true, true, true, true, true, true, true, true, false, false, false, false, false, false] rfl rfl (take_ofW HT_.out HW_.out (by kernel_rfl)) (fun _ _ _ h => h) (Or.inl ⟨by rfl, ?_⟩) hHeld ?_ ?_
                                                   rotate_left
                                                   · rintro w' ⟨s0, s1, s2, s3⟩
                                                     go_simp
                                                     with_reducible rfl
                                                   rotate_left
                                                   · simp only [Act.put, List.setIfInBounds_toArray, List.set_cons_zero, List.set_cons_succ, i64_w, i32_w]
                                                     rfl
                                                   refine take_ (i := 13) (N := some 98) (v := ?_) (a' := ?_) #[true, true, true, true, true, true, true, true, true, true, true, true, true, true, false, false, false, false, false] rfl rfl (take_ofW HT_.out HW_.out (by kernel_rfl)) (fun _ _ _ h => h) (Or.inl ⟨by rfl, ?_⟩) hHeld ?_ ?_
                                                   rotate_left
                                                   · rintro w' ⟨s0, s1, s2, s3⟩
                                                     go_simp
                                                     with_reducible rfl
                                                   rotate_left
                                                   · simp only [Act.put, List.setIfInBounds_toArray, List.set_cons_zero, List.set_cons_succ, i64_w, i32_w]
                                                     rfl
                                                   refine pure_ (i := 14) (N := some 99) (v := ?_) (a' := ?_) #[true, true, true, true, true, true, true, true, true, true, true, true, true, true, true, false, false, false, false] rfl rfl (any_of HT_.out (by kernel_rfl)) (fun _ _ _ h => h) (Or.inl ⟨by rfl, ?_⟩) ?_ ?_
                                                   rotate_left
                                                   · intro w'
                                                     go_simp
                                                     with_reducible rfl
                                                   rotate_left
                                                   · simp only [Act.put, List.setIfInBounds_toArray, List.set_cons_zero, List.set_cons_succ, i64_w, i32_w]
                                                     rfl
                                                   refine take_ (i := 15) (N := some 100) (v := ?_) (a' := ?_) #[true, true, true, true, true, true, true, true, true, true, true, true, true, true, true, true, false, false, false] rfl rfl (take_ofW HT_.out HW_.out (by kernel_rfl)) (fun _ _ _ h => h) (Or.inl ⟨by rfl, ?_⟩) hHeld ?_ ?_
                                                   rotate_left
                                                   · rintro w' ⟨s0, s1, s2, s3⟩
                                                     go_simp
                                                     with_reducible rfl
                                                   rotate_left
                                                   · simp only [Act.put, List.setIfInBounds_toArray, List.set_cons_zero, List.set_cons_succ, i64_w, i32_w]
                                                     rfl
                                                   refine pure_ (i := 16) (N := some 101) (v := ?_) (a' := ?_) #[true, true, true, true, true, true, true, true, true, true, true, true, true, true, true, true, true, false, false] rfl rfl (any_of HT_.out (by kernel_rfl)) (fun _ _ _ h => h) (Or.inl ⟨by rfl, ?_⟩) ?_ ?_
                                                   rotate_left
                                                   · intro w'
                                                     go_simp
                                                     with_reducible rfl
                                                   rotate_left
                                                   · simp only [Act.put, List.setIfInBounds_toArray, List.set_cons_zero, List.set_cons_succ, i64_w, i32_w]
                                                     rfl
                                                   refine pure_ (i := 17) (N := some 102) (v := ?_) (a' := ?_) #[true, true, true, true, true, true, true, true, true, true, true, true, true, true, true, true, true, true, false] rfl rfl (any_of HT_.out (by kernel_rfl)) (fun _ _ _ h => h) (Or.inl ⟨by rfl, ?_⟩) ?_ ?_
                                                   rotate_left
                                                   · intro w'
                                                     go_simp
                                                     with_reducible rfl
                                                   rotate_left
                                                   · simp only [Act.put, List.setIfInBounds_toArray, List.set_cons_zero, List.set_cons_succ, i64_w, i32_w]
                                                     rfl
                                                   refine last_ (i := 18) (N := none) #[true, true, true, true, true, true, true, true, true, true, true, true, true, true, true, true, true, true, true] rfl rfl (one_of HT_.out (by kernel_rfl)) (by decide) (fun K hK => ?_)
                                                   refine skip_ (w1 := ?_) (by rfl) rfl ?_ ?_
                                                   rotate_left
                                                   · go_simp
                                                     rfl
                                                   refine hK.out _ _ ?_
                                                   clear hK K
                                                   refine done_ (done_of HT_.out (by kernel_rfl)) ?_
                                                   have n0_ : Aside0 (Kd.R (Kd.int .i64) 3 (w38.setCell ⟨go21, (x10_3 : Int).toNat, none⟩ (.int .i64 (wrap64 ((rd x7_4 x10_3) - (rd (rd_L1 l1 x10_3) (rd x6_4 x10_3)))))) w.heap.size (fun k_ => some k_ ≠ (.slice (some ad118) x6_4.length co23 : Value).ownBlock ∧ some k_ ≠ (.slice (some ⟨go21, 0, none⟩) x7_4.length co24 : Value).ownBlock) u5 x5_4) := ⟨by (with_reducible repeat (first | apply Kd.R_alloc | apply Kd.R_drewN | apply Kd.R_drew)); exact Kd.R_mono (Kd.R_far (p := ⟨go21, (x10_3 : Int).toNat, none⟩) (Kd.R_mono HO_5.out (fun k_ hk => (⟨hk, fun e_ => hk.2 (by rw [e_]; rfl)⟩ : _ ∧ k_ ≠ go21))) (fun _ hk => hk.2) (.int .i64 (wrap64 ((rd x7_4 x10_3) - (rd (rd_L1 l1 x10_3) (rd x6_4 x10_3)))))) (fun _ hk => ⟨hk.1.1, hk.1.2⟩)⟩
                                                   have n1_ : Aside0 (Kd.R (Kd.int .i64) 3 (w38.setCell ⟨go21, (x10_3 : Int).toNat, none⟩ (.int .i64 (wrap64 ((rd x7_4 x10_3) - (rd (rd_L1 l1 x10_3) (rd x6_4 x10_3)))))) w.heap.size (fun k_ => some k_ ≠ (u5 : Value).ownBlock ∧ some k_ ≠ (.slice (some ⟨go21, 0, none⟩) x7_4.length co24 : Value).ownBlock) (.slice (some ad118) x6_4.length co23) x6_4) := ⟨by (with_reducible repeat (first | apply Kd.R_alloc | apply Kd.R_drewN | apply Kd.R_drew)); exact Kd.R_mono (Kd.R_far (p := ⟨go21, (x10_3 : Int).toNat, none⟩) (Kd.R_mono HO_6.out (fun k_ hk => (⟨hk, fun e_ => hk.2 (by rw [e_]; rfl)⟩ : _ ∧ k_ ≠ go21))) (fun _ hk => hk.2) (.int .i64 (wrap64 ((rd x7_4 x10_3) - (rd (rd_L1 l1 x10_3) (rd x6_4 x10_3)))))) (fun _ hk => ⟨hk.1.1, hk.1.2⟩)⟩
                                                   have n2_ : Aside0 (Kd.R (Kd.int .i64) 3 (w38.setCell ⟨go21, (x10_3 : Int).toNat, none⟩ (.int .i64 (wrap64 ((rd x7_4 x10_3) - (rd (rd_L1 l1 x10_3) (rd x6_4 x10_3)))))) w.heap.size (fun k_ => some k_ ≠ (u5 : Value).ownBlock ∧ some k_ ≠ (.slice (some ad118) x6_4.length co23 : Value).ownBlock) (.slice (some ⟨go21, 0, none⟩) x7_4.length co24) y132) := ⟨by (with_reducible repeat (first | apply Kd.R_alloc | apply Kd.R_drewN | apply Kd.R_drew)); exact HQ39.out⟩
                                                   have n3_ : Aside0 (Below w.heap.size w (w38.setCell ⟨go21, (x10_3 : Int).toNat, none⟩ (.int .i64 (wrap64 ((rd x7_4 x10_3) - (rd (rd_L1 l1 x10_3) (rd x6_4 x10_3))))))) := ⟨by repeat (first | (with_reducible first | exact HB.out | apply below_alloc | apply pw_below_drewN | apply below_drew1 | refine below_set ?_ GB21.out) | exact HB.out)⟩
                                                   (try clear HO_5)
                                                   (try clear HO_6)
                                                   (try clear HO_7)
                                                   (try clear HB)
                                                   generalize (w38.setCell ⟨go21, (x10_3 : Int).toNat, none⟩ (.int .i64 (wrap64 ((rd x7_4 x10_3) - (rd (rd_L1 l1 x10_3) (rd x6_4 x10_3)))))) = w40 at n0_ n1_ n2_ n3_ ⊢
                                                   have HO_5 := n0_
                                                   have HO_6 := n1_
                                                   have HO_7 := n2_
                                                   have HB := n3_
                                                   clear n0_ n1_ n2_ n3_
                                                   have p133 : 0 ≤ (x10_3 : Int) := of_decide_eq_true (by assumption)
                                                   have q133 : x10_3 < (x6_4.length : Int) := of_decide_eq_true (by assumption)
                                                   obtain ⟨ad133, e133, hx133_0⟩ := Kd.at_int (Kd.R_reads' HO_6.out).2.2 x10_3 p133 q133
                                                   obtain rfl : ad118 = ad133 := (by injection e133)
                                                   replace p133 := eq_true p133
                                                   replace q133 := eq_true q133
                                                   have p35 : 0 ≤ (x10_3 : Int) := of_decide_eq_true (by assumption)
                                                   have q35 : (x10_3 : Int) < ((x6_4.length : Int) : Int) := of_decide_eq_true (by assumption)
                                                   obtain ⟨go35, co35, eo35, gb35, gl35, cl35, HG35⟩ := Kd.R_form HO_6.out (by omega)
                                                   (first | cases eo35 | (injection eo35 with ea_ en_ ec_; (first | subst ea_ | (injection ea_ with ea_; subst ea_)); subst ec_; clear en_))
                                                   have GB35 := Aside0.mk gb35
                                                   have GG35 := Aside0.mk HG35
                                                   clear gb35 gl35 HG35
                                                   (first | simp only [add_plain] at hx118_0 | skip)
                                                   (first | simp only [add_plain] at hx122_0 | skip)
                                                   (first | simp only [add_plain] at hx125_0 | skip)
                                                   (first | simp only [add_plain] at hx130_0 | skip)
                                                   (first | simp only [add_plain] at hx133_0 | skip)
                                                   obtain ⟨hx35_0, hf35_0⟩ := Kd.R_celln 0 HO_6.out (x10_3 : Int) p35 q35
                                                   replace p35 := eq_true p35
                                                   replace q35 := eq_true q35
                                                   obtain ⟨hy41_, hz41_⟩ := Kd.R_celln 0 HO_6.out (x10_3 : Int) (of_decide_eq_true (by assumption)) (of_decide_eq_true (by assumption))
                                                   have HP41 := Kd.R_putg HO_6.out (x10_3 : Int) (wrap64 ((rd x6_4 x10_3) + 1))
                                                   try go_wp2_with (first | ((with_reducible refine gate_store (t := 3) (p := 110) rfl ?_); refine store_event (t := 3) (p := 110) (v := ?vo_w42) (w1 := (w40.setCell ⟨go35, (x10_3 : Int).toNat, none⟩ (.int .i64 (wrap64 ((rd x6_4 x10_3) + 1))))) ?hg ?ho ?hn ?hr ?_; (case ho => rfl); (case hg => rfl); (case hn => rfl); (case hr => first | (go_simp; done) | (go_simp; rfl)); intro w42 hw; have hg : w40.grownBy w42 (some go35) := (by rw [hw]; exact HP41.2); have hp_ : Kd.R (Kd.int .i64) 3 w42 w.heap.size (fun k_ => some k_ ≠ (u5 : Value).ownBlock ∧ some k_ ≠ (.slice (some ⟨go21, 0, none⟩) x7_4.length co24 : Value).ownBlock) (.slice (some ⟨go35, 0, none⟩) x6_4.length co23) y134 := (by rw [hw, Ny134.out]; exact HP41.1); clear HP41; have n0_ := Aside0.mk (Kd.R_after (v := (.slice (some ⟨go35, 0, none⟩) x6_4.length co23)) (v1 := (.slice (some ⟨go35, 0, none⟩) x6_4.length co23)) (ok := (fun k_ => some k_ ≠ (.slice (some ⟨go21, 0, none⟩) x7_4.length co24 : Value).ownBlock)) (by (with_reducible repeat (first | apply Kd.R_alloc | apply Kd.R_drewN | apply Kd.R_drew)); exact Kd.R_mono HO_5.out (fun _ hk => ⟨hk.2, hk.1⟩)) hg (.inl rfl)); have n1_ := Aside0.mk (hp_); have n2_ := Aside0.mk (Kd.R_after (v := (.slice (some ⟨go35, 0, none⟩) x6_4.length co23)) (v1 := (.slice (some ⟨go35, 0, none⟩) x6_4.length co23)) (ok := (fun k_ => some k_ ≠ (u5 : Value).ownBlock)) (by (with_reducible repeat (first | apply Kd.R_alloc | apply Kd.R_drewN | apply Kd.R_drew)); exact HO_7.out) hg (.inl rfl)); have n3_ := Aside0.mk ((by rw [hw]; exact below_set (HB.out) GB35.out : Below w.heap.size w w42)); clear HO_5; clear HO_6; clear HO_7; clear HB; have HO_5 := n0_; have HO_6 := n1_; have HO_7 := n2_; have HB := n3_; clear n0_ n1_ n2_ n3_; clear hg hw hp_) | ((with_reducible refine gate_builtin (b := .append) (xs := #[.tmp 111, .tmp 113]) rfl ?_); at_builtin; refine Kd.R_append (Kd.int .i64) (w0 := w) w.heap.size rfl (.tmp 111) (.tmp 113) 24 3 (.int .i64 0) 8 rfl Try.underlying24 info3 rfl (by decide) (by omega) u5 x5_4 x10_3 [.int .i64 x10_3] (fun k_ => some k_ ≠ (.slice (some ⟨go35, 0, none⟩) x6_4.length co23 : Value).ownBlock ∧ some k_ ≠ (.slice (some ⟨go21, 0, none⟩) x7_4.length co24 : Value).ownBlock) (fun _ => False) rfl rfl ?aP (fun _ hk => hk.elim) ?aF ?aO ?aB ?aS ?aL ?_; (case aP => exact rfl); (case aB => exact (by repeat (first | (with_reducible first | exact HB.out | apply below_alloc | apply pw_below_drewN | apply below_drew1) | exact HB.out))); (case aF => exact (fun k_ hk => ⟨Kd.fresh' (Kd.R_lt (by (with_reducible repeat (first | apply Kd.R_alloc | apply Kd.R_drewN | apply Kd.R_drew)); exact HO_6.out)) k_ hk, Kd.fresh' (Kd.R_lt (by (with_reducible repeat (first | apply Kd.R_alloc | apply Kd.R_drewN | apply Kd.R_drew)); exact HO_7.out)) k_ hk⟩)); (case aO => exact (by (with_reducible repeat (first | apply Kd.R_alloc | apply Kd.R_drewN | apply Kd.R_drew)); exact Kd.R_mono HO_5.out (fun _ hk => ⟨hk.2, hk.1⟩))); (case aS => exact (below_size (by repeat (first | (with_reducible first | exact HB.out | apply below_alloc | apply pw_below_drewN | apply below_drew1) | exact HB.out)))); (case aL => have := LMc36.out; omega); intro v136 w43 ho hb hg hat; rw [← Ny135.out] at ho; have n0_ := Aside0.mk (Kd.R_after (ok := (fun k_ => some k_ ≠ (.slice (some ⟨go21, 0, none⟩) x7_4.length co24 : Value).ownBlock)) (by (with_reducible repeat (first | apply Kd.R_alloc | apply Kd.R_drewN | apply Kd.R_drew)); exact Kd.R_mono HO_6.out (fun _ hk => ⟨hk.2, hk.1⟩)) hg hat); have n1_ := Aside0.mk (Kd.R_after (ok := (fun k_ => some k_ ≠ (.slice (some ⟨go35, 0, none⟩) x6_4.length co23 : Value).ownBlock)) (by (with_reducible repeat (first | apply Kd.R_alloc | apply Kd.R_drewN | apply Kd.R_drew)); exact Kd.R_mono HO_7.out (fun _ hk => ⟨hk.2, hk.1⟩)) hg hat); have n2_ := Aside0.mk (hb); have n3_ := Aside0.mk (ho); clear HO_6; clear HO_7; clear HB; clear HO_5; have HO_6 := n0_; have HO_7 := n1_; have HB := n2_; have HO137 := n3_; clear n0_ n1_ n2_ n3_; clear ho hb hg hat))
                                                   (try simp only [← hl6_4, ← hl7_4]); (try simp only [add_plain] at *)
                                                   go_roundg k4
                                                   case measure => have := HK1.out; have := HK2.out; have := HK3.out; have := HK4.out; omega
                                                   case rel => exact ⟨(y135), (y134), (y132), (wrap64 (x8_4 - 1)), (by first | rfl | (simp; done) | (simp [*]; done)), H', ⟨by have := HK1.out; have := HK2.out; have := HK3.out; have := HK4.out; omega⟩, ⟨by (try simp only [hl6_4]); (try simp only [hl7_4]); (with_reducible repeat (first | apply Kd.R_alloc | apply Kd.R_drewN | apply Kd.R_drew)); exact HO137.out⟩, ⟨by (try simp only [hl6_4]); (try simp only [hl7_4]); (with_reducible repeat (first | apply Kd.R_alloc | apply Kd.R_drewN | apply Kd.R_drew)); exact Kd.R_mono HO_6.out (fun _ hk => ⟨hk.2, hk.1⟩)⟩, ⟨by (try simp only [hl6_4]); (try simp only [hl7_4]); (with_reducible repeat (first | apply Kd.R_alloc | apply Kd.R_drewN | apply Kd.R_drew)); exact Kd.R_mono HO_7.out (fun _ hk => ⟨hk.2, hk.1⟩)⟩, ⟨by repeat (first | (with_reducible first | exact HB.out | apply below_alloc | apply pw_below_drewN | apply below_drew1) | exact HB.out)⟩⟩
                                                 · rw [if_neg c36] at H
                                                   exact absurd H (by simp)
                                               · rw [if_neg c33] at H
                                                 have c33b0 : decide ((rd (rd_L1 l1 x10_3) (rd x6_4 x10_3)) ≤ (rd x7_4 x10_3)) = false := decide_eq_false c33
                                                 clear c33
                                                 by_cases c44 : (rd x6_4 x10_3) = ((rd_L1 l1 x10_3).length : Int)
                                                 · rw [if_pos c44] at H
                                                   have c44b0 : ((rd x6_4 x10_3) == ((rd_L1 l1 x10_3).length : Int)) = true := beq_iff_eq.mpr c44
                                                   have c44b1 : ((rd x6_4 x10_3) != ((rd_L1 l1 x10_3).length : Int)) = false := bne_eq_false_iff_eq.mpr c44
                                                   clear c44
                                                   obtain ⟨y140, hy140⟩ : ∃ y_ : List Int, y_ = (x7_4.set (x10_3 : Int).toNat 0) := ⟨_, rfl⟩
                                                   replace H : (spec_serve.l2 k4 a0 l1 x5_4 x6_4 y140 x8_4 (wrap64 (x10_3 + 1))) = some r := by first | (rw [hy140]; with_reducible exact H) | (have H2_ := (Option.bind_some _ _).symm.trans H; rw [hy140]; with_reducible exact H2_) | (have H2_ := (Option.bind_some _ _).symm.trans H; with_reducible exact H2_) | with_reducible exact H | (rw [hy140]; exact H) | exact H
                                                   have Ny140 := Aside0.mk hy140
                                                   clear hy140
                                                   have H' := Aside0.mk H
                                                   clear H
                                                   try go_wp2
                                                   have n0_ := Aside0.mk (Kd.R_drew HO_5.out)
                                                   have n1_ := Aside0.mk (Kd.R_drew HO_6.out)
                                                   have n2_ := Aside0.mk (Kd.R_drew HO_7.out)
                                                   have n3_ := Aside0.mk (below_drew1 HB.out)
                                                   clear HO_5
                                                   clear HO_6
                                                   clear HO_7
                                                   clear HB
                                                   have HO_5 := n0_
                                                   have HO_6 := n1_
                                                   have HO_7 := n2_
                                                   have HB := n3_
                                                   clear n0_ n1_ n2_ n3_
                                                   have p122 : 0 ≤ (x10_3 : Int) := of_decide_eq_true (by assumption)
                                                   have q122 : x10_3 < (x6_4.length : Int) := of_decide_eq_true (by assumption)
                                                   obtain ⟨ad122, e122, hx122_0⟩ := Kd.at_int (Kd.R_reads' HO_6.out).2.2 x10_3 p122 q122
                                                   obtain rfl : ad118 = ad122 := (by injection e122)
                                                   replace p122 := eq_true p122
                                                   replace q122 := eq_true q122
                                                   have p123 : 0 ≤ (x10_3 : Int) := of_decide_eq_true (by assumption)
                                                   have q123 : x10_3 < (l1.length : Int) := of_decide_eq_true (by assumption)
                                                   obtain ⟨ad123, A123_0, c123_0, e123, hx123_0, hl123_0, hi123_0⟩ := at_L1 HR1.out x10_3 p123 q123
                                                   have hw123_0 := hx123_0
                                                   obtain rfl : ad119 = ad123 := (by injection e123)
                                                   replace hx123_0 := (HB.out.cell (World.block_lt_of_cell? w _ hx123_0)).trans hx123_0
                                                   have HR123_0 := Aside0.mk hi123_0
                                                   have HC123_0 := Aside0.mk hl123_0
                                                   clear hi123_0 hl123_0
                                                   replace p123 := eq_true p123
                                                   replace q123 := eq_true q123
                                                   have p124 : 0 ≤ (x10_3 : Int) := of_decide_eq_true (by assumption)
                                                   have q124 : x10_3 < (l1.length : Int) := of_decide_eq_true (by assumption)
                                                   obtain ⟨ad124, A124_0, c124_0, e124, hx124_0, hl124_0, hi124_0⟩ := at_L1 HR1.out x10_3 p124 q124
                                                   have hw124_0 := hx124_0
                                                   obtain rfl : ad119 = ad124 := (by injection e124)
                                                   replace hx124_0 := (HB.out.cell (World.block_lt_of_cell? w _ hx124_0)).trans hx124_0
                                                   have HR124_0 := Aside0.mk hi124_0
                                                   have HC124_0 := Aside0.mk hl124_0
                                                   clear hi124_0 hl124_0
                                                   replace p124 := eq_true p124
                                                   replace q124 := eq_true q124
                                                   have ea_ := Option.some.inj (hx123_0.symm.trans hx124_0)
                                                   injection ea_ with ea_ en_ ec_
                                                   subst ea_
                                                   subst ec_
                                                   clear en_
                                                   have p125 : 0 ≤ (x10_3 : Int) := of_decide_eq_true (by assumption)
                                                   have q125 : x10_3 < (x6_4.length : Int) := of_decide_eq_true (by assumption)
                                                   obtain ⟨ad125, e125, hx125_0⟩ := Kd.at_int (Kd.R_reads' HO_6.out).2.2 x10_3 p125 q125
                                                   obtain rfl : ad118 = ad125 := (by injection e125)
                                                   replace p125 := eq_true p125
                                                   replace q125 := eq_true q125
                                                   have p126 : 0 ≤ ((rd x6_4 x10_3) : Int) := of_decide_eq_true (by assumption)
                                                   have q126 : (rd x6_4 x10_3) < ((rd_L1 l1 x10_3).length : Int) := of_decide_eq_true (by assumption)
                                                   obtain ⟨ad126, e126, hx126_0⟩ := Kd.at_int HR124_0.out (rd x6_4 x10_3) p126 q126
                                                   have hw126_0 := hx126_0
                                                   cases e126
                                                   replace hx126_0 := (HB.out.cell (World.block_lt_of_cell? w _ hx126_0)).trans hx126_0
                                                   replace p126 := eq_true p126
                                                   replace q126 := eq_true q126
                                                   have p127 : 0 ≤ (x10_3 : Int) := of_decide_eq_true (by assumption)
                                                   have q127 : x10_3 < (x7_4.length : Int) := of_decide_eq_true (by assumption)
                                                   obtain ⟨ad127, e127, hx127_0⟩ := Kd.at_int (Kd.R_reads' HO_7.out).2.2 x10_3 p127 q127
                                                   obtain rfl : (⟨go21, 0, none⟩ : Addr) = ad127 := (by injection e127)
                                                   (first | simp only [add_plain] at hx127_0 | simp only [add_at] at hx127_0 | simp only [Addr.add, Nat.zero_add] at hx127_0 | skip)
                                                   replace p127 := eq_true p127
                                                   replace q127 := eq_true q127
                                                   refine start_ (n := 27) (S := fun w' => w'.cell? (ad118.add (x10_3).toNat) = some (.int .i64 (rd x6_4 x10_3)) ∧ w'.cell? (ad119.add (x10_3).toNat) = some (.slice (some ad126) (rd_L1 l1 x10_3).length c123_0) ∧ w'.cell? (ad119.add (x10_3).toNat) = some (.slice (some ad126) (rd_L1 l1 x10_3).length c123_0) ∧ w'.cell? (ad118.add (x10_3).toNat) = some (.int .i64 (rd x6_4 x10_3)) ∧ w'.cell? (ad126.add ((rd x6_4 x10_3)).toNat) = some (.int .i64 (rd (rd_L1 l1 x10_3) (rd x6_4 x10_3))) ∧ w'.cell? ⟨go21, (x10_3).toNat, none⟩ = some (.int .i64 (rd x7_4 x10_3))) (ds := []) #[false, false, false, false, false, false, false, false, false, false, false, false, false, false, false, false, false, false, false, false, false, false, false, false, false, false, false] (by kernel_rfl) rfl rfl ⟨hx122_0, ((HB.out.cell (World.block_lt_of_cell? w _ hw123_0)).trans hw123_0), ((HB.out.cell (World.block_lt_of_cell? w _ hw124_0)).trans hw124_0), hx125_0, ((HB.out.cell (World.block_lt_of_cell? w _ hw126_0)).trans hw126_0), hx127_0⟩ (fun hHeld => ?_); refine with_tabW spec_serve.tab15 spec_serve.bits15 (fun HT_ HW_ => ?_)
                                                   generalize wr.drew = w46 at HO_5 HO_6 HO_7 HB HR123_0 HR124_0 hx122_0 hx123_0 hx124_0 hx125_0 hx126_0 hx127_0 hHeld ⊢
                                                   refine pure_ (i := 0) (N := some 58) (v := ?_) (a' := ?_) #[true, false, false, false, false, false, false, false, false, false, false, false, false, false, false, false, false, false, false, false, false, false, false, false, false, false, false] rfl rfl (any_of HT_.out (by kernel_rfl)) (fun _ _ _ h => h) (Or.inl ⟨by rfl, ?_⟩) ?_ ?_
                                                   rotate_left
                                                   · intro w'
                                                     go_simp
                                                     with_reducible rfl
                                                   rotate_left
                                                   · simp only [Act.put, List.setIfInBounds_toArray, List.set_cons_zero, List.set_cons_succ, i64_w, i32_w]
                                                     rfl
                                                   refine pure_ (i := 1) (N := some 59) (v := ?_) (a' := ?_) #[true, true, false, false, false, false, false, false, false, false, false, false, false, false, false, false, false, false, false, false, false, false, false, false, false, false, false] rfl rfl (any_of HT_.out (by kernel_rfl)) (fun _ _ _ h => h) (Or.inl ⟨by rfl, ?_⟩) ?_ ?_
                                                   rotate_left
                                                   · intro w'
                                                     go_simp
                                                     with_reducible rfl
                                                   rotate_left
                                                   · simp only [Act.put, List.setIfInBounds_toArray, List.set_cons_zero, List.set_cons_succ, i64_w, i32_w]
                                                     rfl
                                                   refine pure_ (i := 2) (N := some 60) (v := ?_) (a' := ?_) #[true, true, true, false, false, false, false, false, false, false, false, false, false, false, false, false, false, false, false, false, false, false, false, false, false, false, false] rfl rfl (any_of HT_.out (by kernel_rfl)) (fun _ _ _ h => h) (Or.inl ⟨by rfl, ?_⟩) ?_ ?_
                                                   rotate_left
                                                   · intro w'
                                                     go_simp
                                                     with_reducible rfl
                                                   rotate_left
                                                   · simp only [Act.put, List.setIfInBounds_toArray, List.set_cons_zero, List.set_cons_succ, i64_w, i32_w]
                                                     rfl
                                                   refine pure_ (i := 4) (N := some 62) (v := ?_) (a' := ?_) #[true, true, true, false, true, false, false, false, false, false, false, false, false, false, false, false, false, false, false, false, false, false, false, false, false, false, false] rfl rfl (any_of HT_.out (by kernel_rfl)) (fun _ _ _ h => h) (Or.inl ⟨by rfl, ?_⟩) ?_ ?_
                                                   rotate_left
                                                   · intro w'
                                                     go_simp
                                                     with_reducible rfl
                                                   rotate_left
                                                   · simp only [Act.put, List.setIfInBounds_toArray, List.set_cons_zero, List.set_cons_succ, i64_w, i32_w]
                                                     rfl
                                                   refine pure_ (i := 5) (N := some 63) (v := ?_) (a' := ?_) #[true, true, true, false, true, true, false, false, false, false, false, false, false, false, false, false, false, false, false, false, false, false, false, false, false, false, false] rfl rfl (any_of HT_.out (by kernel_rfl)) (fun _ _ _ h => h) (Or.inl ⟨by rfl, ?_⟩) ?_ ?_
                                                   rotate_left
                                                   · intro w'
                                                     go_simp
                                                     with_reducible rfl
                                                   rotate_left
                                                   · simp only [Act.put, List.setIfInBounds_toArray, List.set_cons_zero, List.set_cons_succ, i64_w, i32_w]
                                                     rfl
                                                   refine pure_ (i := 6) (N := some 64) (v := ?_) (a' := ?_) #[true, true, true, false, true, true, true, false, false, false, false, false, false, false, false, false, false, false, false, false, false, false, false, false, false, false, false] rfl rfl (any_of HT_.out (by kernel_rfl)) (fun _ _ _ h => h) (Or.inl ⟨by rfl, ?_⟩) ?_ ?_
                                                   rotate_left
                                                   · intro w'
                                                     go_simp
                                                     with_reducible rfl
                                                   rotate_left
                                                   · simp only [Act.put, List.setIfInBounds_toArray, List.set_cons_zero, List.set_cons_succ, i64_w, i32_w]
                                                     rfl
                                                   refine take_ (i := 3) (N := some 61) (v := ?_) (a' := ?_) #[true, true, true, true, true, true, true, false, false, false, false, false, false, false, false, false, false, false, false, false, false, false, false, false, false, false, false] rfl rfl (take_ofW HT_.out HW_.out (by kernel_rfl)) (fun _ _ _ h => h) (Or.inl ⟨by rfl, ?_⟩) hHeld ?_ ?_
                                                   rotate_left
                                                   · rintro w' ⟨s0, s1, s2, s3, s4, s5⟩
                                                     go_simp
                                                     with_reducible rfl
                                                   rotate_left
                                                   · simp only [Act.put, List.setIfInBounds_toArray, List.set_cons_zero, List.set_cons_succ, i64_w, i32_w]
                                                     rfl
                                                   refine take_ (i := 7) (N := some 65) (v := ?_) (a' := ?_) #[true, true, true, true, true, true, true, true, false, false, false, false, false, false, false, false, false, false, false, false, false, false, false, false, false, false, false] rfl rfl (take_ofW HT_.out HW_.out (by kernel_rfl)) (fun _ _ _ h => h) (Or.inl ⟨by rfl, ?_⟩) hHeld ?_ ?_
                                                   rotate_left
                                                   · rintro w' ⟨s0, s1, s2, s3, s4, s5⟩
                                                     go_simp
                                                     with_reducible rfl
                                                   rotate_left
                                                   · simp only [Act.put, List.setIfInBounds_toArray, List.set_cons_zero, List.set_cons_succ, i64_w, i32_w]
                                                     rfl
                                                   refine pure_ (i := 8) (N := some 66) (v := ?_) (a' := ?_) #[true, true, true, true, true, true, true, true, true, false, false, false, false, false, false, false, false, false, false, false, false, false, false, false, false, false, false] rfl rfl (any_of HT_.out (by kernel_rfl)) (fun _ _ _ h => h) (Or.inl ⟨by rfl, ?_⟩) ?_ ?_
                                                   rotate_left
                                                   · intro w'
                                                     go_simp
                                                     with_reducible rfl
                                                   rotate_left
                                                   · simp only [Act.put, List.setIfInBounds_toArray, List.set_cons_zero, List.set_cons_succ, i64_w, i32_w]
                                                     rfl
                                                   refine pure_ (i := 9) (N := some 67) (v := ?_) (a' := ?_) #[true, true, true, true, true, true, true, true, true, true, false, false, false, false, false, false, false, false, false, false, false, false, false, false, false, false, false] rfl rfl (any_of HT_.out (by kernel_rfl)) (fun _ _ _ h => h) (Or.inl ⟨by rfl, ?_⟩) ?_ ?_
                                                   rotate_left
                                                   · intro w'
                                                     go_simp
                                                     with_reducible rfl
                                                   rotate_left
                                                   · simp only [Act.put, List.setIfInBounds_toArray, List.set_cons_zero, List.set_cons_succ, i64_w, i32_w]
                                                     rfl
                                                   refine pure_ (i := 10) (N := some 68) (v := ?_) (a' := ?_) #[true, true, true, true, true, true, true, true, true, true, true, false, false, false, false, false, false, false, false, false, false, false, false, false, false, false, false] rfl rfl (any_of HT_.out (by kernel_rfl)) (fun _ _ _ h => h) (Or.inl ⟨by rfl, ?_⟩) ?_ ?_
                                                   rotate_left
                                                   · intro w'
                                                     go_simp
                                                     with_reducible rfl
                                                   rotate_left
                                                   · simp only [Act.put, List.setIfInBounds_toArray, List.set_cons_zero, List.set_cons_succ, i64_w, i32_w]
                                                     rfl
                                                   refine pure_ (i := 11) (N := some 69) (v := ?_) (a' := ?_) #[true, true, true, true, true, true, true, true, true, true, true, true, false, false, false, false, false, false, false, false, false, false, false, false, false, false, false] rfl rfl (any_of HT_.out (by kernel_rfl)) (fun _ _ _ h => h) (Or.inl ⟨by rfl, ?_⟩) ?_ ?_
                                                   rotate_left
                                                   · intro w'
                                                     go_simp
                                                     with_reducible rfl
                                                   rotate_left
                                                   · simp only [Act.put, List.setIfInBounds_toArray, List.set_cons_zero, List.set_cons_succ, i64_w, i32_w]
                                                     rfl
                                                   refine pure_ (i := 12) (N := some 70) (v := ?_) (a' := ?_) #[true, true, true, true, true, true, true, true, true, true, true, true, true, false, false, false, false, false, false, false, false, false, false, false, false, false, false] rfl rfl (any_of HT_.out (by kernel_rfl)) (fun _ _ _ h => h) (Or.inl ⟨by rfl, ?_⟩) ?_ ?_
                                                   rotate_left
                                                   · intro w'
                                                     go_simp
                                                     with_reducible rfl
                                                   rotate_left
                                                   · simp only [Act.put, List.setIfInBounds_toArray, List.set_cons_zero, List.set_cons_succ, i64_w, i32_w]
                                                     rfl
                                                   refine pure_ (i := 13) (N := some 71) (v := ?_) (a' := ?_) #[true, true, true, true, true, true, true, true, true, true, true, true, true, true, false, false, false, false, false, false, false, false, false, false, false, false, false] rfl rfl (any_of HT_.out (by kernel_rfl)) (fun _ _ _ h => h) (Or.inl ⟨by rfl, ?_⟩) ?_ ?_
                                                   rotate_left
                                                   · intro w'
                                                     go_simp
                                                     with_reducible rfl
                                                   rotate_left
                                                   · simp only [Act.put, List.setIfInBounds_toArray, List.set_cons_zero, List.set_cons_succ, i64_w, i32_w]
                                                     rfl
                                                   refine pure_ (i := 15) (N := some 73) (v := ?_) (a' := ?_) #[true, true, true, true, true, true, true, true, true, true, true, true, true, true, false, true, false, false, false, false, false, false, false, false, false, false, false] rfl rfl (any_of HT_.out (by kernel_rfl)) (fun _ _ _ h => h) (Or.inl ⟨by rfl, ?_⟩) ?_ ?_
                                                   rotate_left
                                                   · intro w'
                                                     go_simp
                                                     with_reducible rfl
                                                   rotate_left
                                                   · simp only [Act.put, List.setIfInBounds_toArray, List.set_cons_zero, List.set_cons_succ, i64_w, i32_w]
                                                     rfl
                                                   refine pure_ (i := 16) (N := some 74) (v := ?_) (a' := ?_) #[true, true, true, true, true, true, true, true, true, true, true, true, true, true, false, true, true, false, false, false, false, false, false, false, false, false, false] rfl rfl (any_of HT_.out (by kernel_rfl)) (fun _ _ _ h => h) (Or.inl ⟨by rfl, ?_⟩) ?_ ?_
                                                   rotate_left
                                                   · intro w'
                                                     go_simp
                                                     with_reducible rfl
                                                   rotate_left
                                                   · simp only [Act.put, List.setIfInBounds_toArray, List.set_cons_zero, List.set_cons_succ, i64_w, i32_w]
                                                     rfl
                                                   refine pure_ (i := 17) (N := some 75) (v := ?_) (a' := ?_) #[true, true, true, true, true, true, true, true, true, true, true, true, true, true, false, true, true, true, false, false, false, false, false, false, false, false, false] rfl rfl (any_of HT_.out (by kernel_rfl)) (fun _ _ _ h => h) (Or.inl ⟨by rfl, ?_⟩) ?_ ?_
                                                   rotate_left
                                                   · intro w'
                                                     go_simp
                                                     with_reducible rfl
                                                   rotate_left
                                                   · simp only [Act.put, List.setIfInBounds_toArray, List.set_cons_zero, List.set_cons_succ, i64_w, i32_w]
                                                     rfl
                                                   refine pure_ (i := 21) (N := some 79) (v := ?_) (a' := ?_) #[true, true, true, true, true, true, true, true, true, true, true, true, true, true, false, true, true, true, false, false, false, true, false, false, false, false, false] rfl rfl (any_of HT_.out (by kernel_rfl)) (fun _ _ _ h => h) (Or.inl ⟨by rfl, ?_⟩) ?_ ?_
                                                   rotate_left
                                                   · intro w'
                                                     go_simp
                                                     with_reducible rfl
                                                   rotate_left
                                                   · simp only [Act.put, List.setIfInBounds_toArray, List.set_cons_zero, List.set_cons_succ, i64_w, i32_w]
                                                     rfl
                                                   refine pure_ (i := 22) (N := some 80) (v := ?_) (a' := ?_) #[true, true, true, true, true, true, true, true, true, true, true, true, true, true, false, true, true, true, false, false, false, true, true, false, false, false, false] rfl rfl (any_of HT_.out (by kernel_rfl)) (fun _ _ _ h => h) (Or.inl ⟨by rfl, ?_⟩) ?_ ?_
                                                   rotate_left
                                                   · intro w'
                                                     go_simp
                                                     with_reducible rfl
                                                   rotate_left
                                                   · simp only [Act.put, List.setIfInBounds_toArray, List.set_cons_zero, List.set_cons_succ, i64_w, i32_w]
                                                     rfl
                                                   refine pure_ (i := 23) (N := some 81) (v := ?_) (a' := ?_) #[true, true, true, true, true, true, true, true, true, true, true, true, true, true, false, true, true, true, false, false, false, true, true, true, false, false, false] rfl rfl (any_of HT_.out (by kernel_rfl)) (fun _ _ _ h => h) (Or.inl ⟨by rfl, ?_⟩) ?_ ?_
                                                   rotate_left
                                                   · intro w'
                                                     go_simp
                                                     with_reducible rfl
                                                   rotate_left
                                                   · simp only [Act.put, List.setIfInBounds_toArray, List.set_cons_zero, List.set_cons_succ, i64_w, i32_w]
                                                     rfl
                                                   refine take_ (i := 14) (N := some 72) (v := ?_) (a' := ?_) #[true, true, true, true, true, true, true, true, true, true, true, true, true, true, true, true, true, true, false, false, false, true, true, true, false, false, false] rfl rfl (take_ofW HT_.out HW_.out (by kernel_rfl)) (fun _ _ _ h => h) (Or.inl ⟨by rfl, ?_⟩) hHeld ?_ ?_
                                                   rotate_left
                                                   · rintro w' ⟨s0, s1, s2, s3, s4, s5⟩
                                                     go_simp
                                                     with_reducible rfl
                                                   rotate_left
                                                   · simp only [Act.put, List.setIfInBounds_toArray, List.set_cons_zero, List.set_cons_succ, i64_w, i32_w]
                                                     rfl
                                                   refine take_ (i := 18) (N := some 76) (v := ?_) (a' := ?_) #[true, true, true, true, true, true, true, true, true, true, true, true, true, true, true, true, true, true, true, false, false, true, true, true, false, false, false] rfl rfl (take_ofW HT_.out HW_.out (by kernel_rfl)) (fun _ _ _ h => h) (Or.inl ⟨by rfl, ?_⟩) hHeld ?_ ?_
                                                   rotate_left
                                                   · rintro w' ⟨s0, s1, s2, s3, s4, s5⟩
                                                     go_simp
                                                     with_reducible rfl
                                                   rotate_left
                                                   · simp only [Act.put, List.setIfInBounds_toArray, List.set_cons_zero, List.set_cons_succ, i64_w, i32_w]
                                                     rfl
                                                   refine pure_ (i := 19) (N := some 77) (v := ?_) (a' := ?_) #[true, true, true, true, true, true, true, true, true, true, true, true, true, true, true, true, true, true, true, true, false, true, true, true, false, false, false] rfl rfl (any_of HT_.out (by kernel_rfl)) (fun _ _ _ h => h) (Or.inl ⟨by rfl, ?_⟩) ?_ ?_
                                                   rotate_left
                                                   · intro w'
                                                     go_simp
                                                     with_reducible rfl
                                                   rotate_left
                                                   · simp only [Act.put, List.setIfInBounds_toArray, List.set_cons_zero, List.set_cons_succ, i64_w, i32_w]
                                                     rfl
                                                   refine take_ (i := 20) (N := some 78) (v := ?_) (a' := ?_) #[true, true, true, true, true, true, true, true, true, true, true, true, true, true, true, true, true, true, true, true, true, true, true, true, false, false, false] rfl rfl (take_ofW HT_.out HW_.out (by kernel_rfl)) (fun _ _ _ h => h) (Or.inl ⟨by rfl, ?_⟩) hHeld ?_ ?_
                                                   rotate_left
                                                   · rintro w' ⟨s0, s1, s2, s3, s4, s5⟩
                                                     go_simp
                                                     with_reducible rfl
                                                   rotate_left
                                                   · simp only [Act.put, List.setIfInBounds_toArray, List.set_cons_zero, List.set_cons_succ, i64_w, i32_w]
                                                     rfl
                                                   refine take_ (i := 24) (N := some 82) (v := ?_) (a' := ?_) #[true, true, true, true, true, true, true, true, true, true, true, true, true, true, true, true, true, true, true, true, true, true, true, true, true, false, false] rfl rfl (take_ofW HT_.out HW_.out (by kernel_rfl)) (fun _ _ _ h => h) (Or.inl ⟨by rfl, ?_⟩) hHeld ?_ ?_
                                                   rotate_left
                                                   · rintro w' ⟨s0, s1, s2, s3, s4, s5⟩
                                                     go_simp
                                                     with_reducible rfl
                                                   rotate_left
                                                   · simp only [Act.put, List.setIfInBounds_toArray, List.set_cons_zero, List.set_cons_succ, i64_w, i32_w]
                                                     rfl
                                                   refine pure_ (i := 25) (N := some 83) (v := ?_) (a' := ?_) #[true, true, true, true, true, true, true, true, true, true, true, true, true, true, true, true, true, true, true, true, true, true, true, true, true, true, false] rfl rfl (any_of HT_.out (by kernel_rfl)) (fun _ _ _ h => h) (Or.inl ⟨by rfl, ?_⟩) ?_ ?_
                                                   rotate_left
                                                   · intro w'
                                                     go_simp
                                                     with_reducible rfl
                                                   rotate_left
                                                   · simp only [Act.put, List.setIfInBounds_toArray, List.set_cons_zero, List.set_cons_succ, i64_w, i32_w]
                                                     rfl
                                                   refine pure_ (i := 26) (N := some 84) (v := ?_) (a' := ?_) #[true, true, true, true, true, true, true, true, true, true, true, true, true, true, true, true, true, true, true, true, true, true, true, true, true, true, true] rfl rfl (any_of HT_.out (by kernel_rfl)) (fun _ _ _ h => h) (Or.inl ⟨by rfl, ?_⟩) ?_ ?_
                                                   rotate_left
                                                   · intro w'
                                                     go_simp
                                                     with_reducible rfl
                                                   rotate_left
                                                   · simp only [Act.put, List.setIfInBounds_toArray, List.set_cons_zero, List.set_cons_succ, i64_w, i32_w]
                                                     rfl
                                                   refine done_ (done_of HT_.out (by kernel_rfl)) ?_
                                                   try go_wp2
                                                   have n0_ := Aside0.mk (Kd.R_drew HO_5.out)
                                                   have n1_ := Aside0.mk (Kd.R_drew HO_6.out)
                                                   have n2_ := Aside0.mk (Kd.R_drew HO_7.out)
                                                   have n3_ := Aside0.mk (below_drew1 HB.out)
                                                   clear HO_5
                                                   clear HO_6
                                                   clear HO_7
                                                   clear HB
                                                   have HO_5 := n0_
                                                   have HO_6 := n1_
                                                   have HO_7 := n2_
                                                   have HB := n3_
                                                   clear n0_ n1_ n2_ n3_
                                                   have p138 : 0 ≤ (x10_3 : Int) := of_decide_eq_true (by assumption)
                                                   have q138 : x10_3 < (x6_4.length : Int) := of_decide_eq_true (by assumption)
                                                   obtain ⟨ad138, e138, hx138_0⟩ := Kd.at_int (Kd.R_reads' HO_6.out).2.2 x10_3 p138 q138
                                                   obtain rfl : ad118 = ad138 := (by injection e138)
                                                   replace p138 := eq_true p138
                                                   replace q138 := eq_true q138
                                                   have p139 : 0 ≤ (x10_3 : Int) := of_decide_eq_true (by assumption)
                                                   have q139 : x10_3 < (l1.length : Int) := of_decide_eq_true (by assumption)
                                                   obtain ⟨ad139, A139_0, c139_0, e139, hx139_0, hl139_0, hi139_0⟩ := at_L1 HR1.out x10_3 p139 q139
                                                   have hw139_0 := hx139_0
                                                   obtain rfl : ad119 = ad139 := (by injection e139)
                                                   replace hx139_0 := (HB.out.cell (World.block_lt_of_cell? w _ hx139_0)).trans hx139_0
                                                   have HR139_0 := Aside0.mk hi139_0
                                                   have HC139_0 := Aside0.mk hl139_0
                                                   clear hi139_0 hl139_0
                                                   replace p139 := eq_true p139
                                                   replace q139 := eq_true q139
                                                   refine start_ (n := 10) (S := fun w' => w'.cell? (ad118.add (x10_3).toNat) = some (.int .i64 (rd x6_4 x10_3)) ∧ w'.cell? (ad119.add (x10_3).toNat) = some (.slice A139_0 (rd_L1 l1 x10_3).length c139_0)) (ds := []) #[false, false, false, false, false, false, false, false, false, false] (by kernel_rfl) rfl rfl ⟨hx138_0, ((HB.out.cell (World.block_lt_of_cell? w _ hw139_0)).trans hw139_0)⟩ (fun hHeld => ?_); refine with_tabW spec_serve.tab20 spec_serve.bits20 (fun HT_ HW_ => ?_)
                                                   generalize w46.drew = w47 at HO_5 HO_6 HO_7 HB HR139_0 hx138_0 hx139_0 hHeld ⊢
                                                   refine pure_ (i := 0) (N := some 117) (v := ?_) (a' := ?_) #[true, false, false, false, false, false, false, false, false, false] rfl rfl (any_of HT_.out (by kernel_rfl)) (fun _ _ _ h => h) (Or.inl ⟨by rfl, ?_⟩) ?_ ?_
                                                   rotate_left
                                                   · intro w'
                                                     go_simp
                                                     with_reducible rfl
                                                   rotate_left
                                                   · simp only [Act.put, List.setIfInBounds_toArray, List.set_cons_zero, List.set_cons_succ, i64_w, i32_w]
                                                     rfl
                                                   refine pure_ (i := 1) (N := some 118) (v := ?_) (a' := ?_) #[true, true, false, false, false, false, false, false, false, false] rfl rfl (any_of HT_.out (by kernel_rfl)) (fun _ _ _ h => h) (Or.inl ⟨by rfl, ?_⟩) ?_ ?_
                                                   rotate_left
                                                   · intro w'
                                                     go_simp
                                                     with_reducible rfl
                                                   rotate_left
                                                   · simp only [Act.put, List.setIfInBounds_toArray, List.set_cons_zero, List.set_cons_succ, i64_w, i32_w]
                                                     rfl
                                                   refine pure_ (i := 2) (N := some 119) (v := ?_) (a' := ?_) #[true, true, true, false, false, false, false, false, false, false] rfl rfl (any_of HT_.out (by kernel_rfl)) (fun _ _ _ h => h) (Or.inl ⟨by rfl, ?_⟩) ?_ ?_
                                                   rotate_left
                                                   · intro w'
                                                     go_simp
                                                     with_reducible rfl
                                                   rotate_left
                                                   · simp only [Act.put, List.setIfInBounds_toArray, List.set_cons_zero, List.set_cons_succ, i64_w, i32_w]
                                                     rfl
                                                   refine pure_ (i := 4) (N := some 121) (v := ?_) (a' := ?_) #[true, true, true, false, true, false, false, false, false, false] rfl rfl (any_of HT_.out (by kernel_rfl)) (fun _ _ _ h => h) (Or.inl ⟨by rfl, ?_⟩) ?_ ?_
                                                   rotate_left
                                                   · intro w'
                                                     go_simp
                                                     with_reducible rfl
                                                   rotate_left
                                                   · simp only [Act.put, List.setIfInBounds_toArray, List.set_cons_zero, List.set_cons_succ, i64_w, i32_w]
                                                     rfl
                                                   refine pure_ (i := 5) (N := some 122) (v := ?_) (a' := ?_) #[true, true, true, false, true, true, false, false, false, false] rfl rfl (any_of HT_.out (by kernel_rfl)) (fun _ _ _ h => h) (Or.inl ⟨by rfl, ?_⟩) ?_ ?_
                                                   rotate_left
                                                   · intro w'
                                                     go_simp
                                                     with_reducible rfl
                                                   rotate_left
                                                   · simp only [Act.put, List.setIfInBounds_toArray, List.set_cons_zero, List.set_cons_succ, i64_w, i32_w]
                                                     rfl
                                                   refine pure_ (i := 6) (N := some 123) (v := ?_) (a' := ?_) #[true, true, true, false, true, true, true, false, false, false] rfl rfl (any_of HT_.out (by kernel_rfl)) (fun _ _ _ h => h) (Or.inl ⟨by rfl, ?_⟩) ?_ ?_
                                                   rotate_left
                                                   · intro w'
                                                     go_simp
                                                     with_reducible rfl
                                                   rotate_left
                                                   · simp only [Act.put, List.setIfInBounds_toArray, List.set_cons_zero, List.set_cons_succ, i64_w, i32_w]
                                                     rfl
                                                   refine take_ (i := 3) (N := some 120) (v := ?_) (a' := ?_) #[true, true, true, true, true, true, true, false, false, false] rfl rfl (take_ofW HT_.out HW_.out (by kernel_rfl)) (fun _ _ _ h => h) (Or.inl ⟨by rfl, ?_⟩) hHeld ?_ ?_
                                                   rotate_left
                                                   · rintro w' ⟨s0, s1⟩
                                                     go_simp
                                                     with_reducible rfl
                                                   rotate_left
                                                   · simp only [Act.put, List.setIfInBounds_toArray, List.set_cons_zero, List.set_cons_succ, i64_w, i32_w]
                                                     rfl
                                                   refine take_ (i := 7) (N := some 124) (v := ?_) (a' := ?_) #[true, true, true, true, true, true, true, true, false, false] rfl rfl (take_ofW HT_.out HW_.out (by kernel_rfl)) (fun _ _ _ h => h) (Or.inl ⟨by rfl, ?_⟩) hHeld ?_ ?_
                                                   rotate_left
                                                   · rintro w' ⟨s0, s1⟩
                                                     go_simp
                                                     with_reducible rfl
                                                   rotate_left
                                                   · simp only [Act.put, List.setIfInBounds_toArray, List.set_cons_zero, List.set_cons_succ, i64_w, i32_w]
                                                     rfl
                                                   refine pure_ (i := 8) (N := some 125) (v := ?_) (a' := ?_) #[true, true, true, true, true, true, true, true, true, false] rfl rfl (any_of HT_.out (by kernel_rfl)) (fun _ _ _ h => h) (Or.inl ⟨by rfl, ?_⟩) ?_ ?_
                                                   rotate_left
                                                   · intro w'
                                                     go_simp
                                                     with_reducible rfl
                                                   rotate_left
                                                   · simp only [Act.put, List.setIfInBounds_toArray, List.set_cons_zero, List.set_cons_succ, i64_w, i32_w]
                                                     rfl
                                                   refine pure_ (i := 9) (N := some 126) (v := ?_) (a' := ?_) #[true, true, true, true, true, true, true, true, true, true] rfl rfl (any_of HT_.out (by kernel_rfl)) (fun _ _ _ h => h) (Or.inl ⟨by rfl, ?_⟩) ?_ ?_
                                                   rotate_left
                                                   · intro w'
                                                     go_simp
                                                     with_reducible rfl
                                                   rotate_left
                                                   · simp only [Act.put, List.setIfInBounds_toArray, List.set_cons_zero, List.set_cons_succ, i64_w, i32_w]
                                                     rfl
                                                   refine done_ (done_of HT_.out (by kernel_rfl)) ?_
                                                   have p45 : 0 ≤ (x10_3 : Int) := of_decide_eq_true (by assumption)
                                                   have q45 : (x10_3 : Int) < ((x7_4.length : Int) : Int) := of_decide_eq_true (by assumption)
                                                   obtain ⟨hx45_0, hf45_0⟩ := Kd.R_celln 0 HO_7.out (x10_3 : Int) p45 q45
                                                   replace p45 := eq_true p45
                                                   replace q45 := eq_true q45
                                                   obtain ⟨hy48_, hz48_⟩ := Kd.R_celln 0 HO_7.out (x10_3 : Int) (of_decide_eq_true (by assumption)) (of_decide_eq_true (by assumption))
                                                   have HP48 := Kd.R_putg HO_7.out (x10_3 : Int) 0
                                                   try go_wp2_with (first | ((with_reducible refine gate_store (t := 3) (p := 129) rfl ?_); refine store_event (t := 3) (p := 129) (v := ?vo_w49) (w1 := (w47.setCell ⟨go21, (x10_3 : Int).toNat, none⟩ (.int .i64 0))) ?hg ?ho ?hn ?hr ?_; (case ho => rfl); (case hg => rfl); (case hn => rfl); (case hr => first | (go_simp; done) | (go_simp; rfl)); intro w49 hw; have hg : w47.grownBy w49 (some go21) := (by rw [hw]; exact HP48.2); have hp_ : Kd.R (Kd.int .i64) 3 w49 w.heap.size (fun k_ => some k_ ≠ (u5 : Value).ownBlock ∧ some k_ ≠ (.slice (some ad118) x6_4.length co23 : Value).ownBlock) (.slice (some ⟨go21, 0, none⟩) x7_4.length co24) y140 := (by rw [hw, Ny140.out]; exact HP48.1); clear HP48; have n0_ := Aside0.mk (Kd.R_after (v := (.slice (some ⟨go21, 0, none⟩) x7_4.length co24)) (v1 := (.slice (some ⟨go21, 0, none⟩) x7_4.length co24)) (ok := (fun k_ => some k_ ≠ (.slice (some ad118) x6_4.length co23 : Value).ownBlock)) (by (with_reducible repeat (first | apply Kd.R_alloc | apply Kd.R_drewN | apply Kd.R_drew)); exact HO_5.out) hg (.inl rfl)); have n1_ := Aside0.mk (Kd.R_after (v := (.slice (some ⟨go21, 0, none⟩) x7_4.length co24)) (v1 := (.slice (some ⟨go21, 0, none⟩) x7_4.length co24)) (ok := (fun k_ => some k_ ≠ (u5 : Value).ownBlock)) (by (with_reducible repeat (first | apply Kd.R_alloc | apply Kd.R_drewN | apply Kd.R_drew)); exact HO_6.out) hg (.inl rfl)); have n2_ := Aside0.mk (hp_); have n3_ := Aside0.mk ((by rw [hw]; exact below_set (HB.out) GB21.out : Below w.heap.size w w49)); clear HO_5; clear HO_6; clear HO_7; clear HB; have HO_5 := n0_; have HO_6 := n1_; have HO_7 := n2_; have HB := n3_; clear n0_ n1_ n2_ n3_; clear hg hw hp_))
                                                   (try simp only [← hl6_4, ← hl7_4])
                                                   go_roundg k4
                                                   case measure => have := HK1.out; have := HK2.out; have := HK3.out; have := HK4.out; omega
                                                   case rel => exact ⟨(x5_4), (x6_4), (y140), (x8_4), (wrap64 (x10_3 + 1)), (by first | rfl | (simp; done) | (simp [*]; done)), (by first | rfl | (simp; done) | (simp [*]; done)), H', ⟨by have := HK1.out; have := HK2.out; have := HK3.out; have := HK4.out; omega⟩, ⟨by (try simp only [hl6_4]); (try simp only [hl7_4]); (with_reducible repeat (first | apply Kd.R_alloc | apply Kd.R_drewN | apply Kd.R_drew)); exact HO_5.out⟩, ⟨by (try simp only [hl6_4]); (try simp only [hl7_4]); (with_reducible repeat (first | apply Kd.R_alloc | apply Kd.R_drewN | apply Kd.R_drew)); exact HO_6.out⟩, ⟨by (try simp only [hl6_4]); (try simp only [hl7_4]); (with_reducible repeat (first | apply Kd.R_alloc | apply Kd.R_drewN | apply Kd.R_drew)); exact HO_7.out⟩, ⟨by repeat (first | (with_reducible first | exact HB.out | apply below_alloc | apply pw_below_drewN | apply below_drew1) | exact HB.out)⟩⟩
                                                 · rw [if_neg c44] at H
                                                   have c44b0 : ((rd x6_4 x10_3) == ((rd_L1 l1 x10_3).length : Int)) = false := beq_eq_false_iff_ne.mpr c44
                                                   have c44b1 : ((rd x6_4 x10_3) != ((rd_L1 l1 x10_3).length : Int)) = true := bne_iff_ne.mpr c44
                                                   have H' := Aside0.mk H
                                                   clear H
                                                   try go_wp2
                                                   have n0_ := Aside0.mk (Kd.R_drew HO_5.out)
                                                   have n1_ := Aside0.mk (Kd.R_drew HO_6.out)
                                                   have n2_ := Aside0.mk (Kd.R_drew HO_7.out)
                                                   have n3_ := Aside0.mk (below_drew1 HB.out)
                                                   clear HO_5
                                                   clear HO_6
                                                   clear HO_7
                                                   clear HB
                                                   have HO_5 := n0_
                                                   have HO_6 := n1_
                                                   have HO_7 := n2_
                                                   have HB := n3_
                                                   clear n0_ n1_ n2_ n3_
                                                   have p122 : 0 ≤ (x10_3 : Int) := of_decide_eq_true (by assumption)
                                                   have q122 : x10_3 < (x6_4.length : Int) := of_decide_eq_true (by assumption)
                                                   obtain ⟨ad122, e122, hx122_0⟩ := Kd.at_int (Kd.R_reads' HO_6.out).2.2 x10_3 p122 q122
                                                   obtain rfl : ad118 = ad122 := (by injection e122)
                                                   replace p122 := eq_true p122
                                                   replace q122 := eq_true q122
                                                   have p123 : 0 ≤ (x10_3 : Int) := of_decide_eq_true (by assumption)
                                                   have q123 : x10_3 < (l1.length : Int) := of_decide_eq_true (by assumption)
                                                   obtain ⟨ad123, A123_0, c123_0, e123, hx123_0, hl123_0, hi123_0⟩ := at_L1 HR1.out x10_3 p123 q123
                                                   have hw123_0 := hx123_0
                                                   obtain rfl : ad119 = ad123 := (by injection e123)
                                                   replace hx123_0 := (HB.out.cell (World.block_lt_of_cell? w _ hx123_0)).trans hx123_0
                                                   have HR123_0 := Aside0.mk hi123_0
                                                   have HC123_0 := Aside0.mk hl123_0
                                                   clear hi123_0 hl123_0
                                                   replace p123 := eq_true p123
                                                   replace q123 := eq_true q123
                                                   have p124 : 0 ≤ (x10_3 : Int) := of_decide_eq_true (by assumption)
                                                   have q124 : x10_3 < (l1.length : Int) := of_decide_eq_true (by assumption)
                                                   obtain ⟨ad124, A124_0, c124_0, e124, hx124_0, hl124_0, hi124_0⟩ := at_L1 HR1.out x10_3 p124 q124
                                                   have hw124_0 := hx124_0
                                                   obtain rfl : ad119 = ad124 := (by injection e124)
                                                   replace hx124_0 := (HB.out.cell (World.block_lt_of_cell? w _ hx124_0)).trans hx124_0
                                                   have HR124_0 := Aside0.mk hi124_0
                                                   have HC124_0 := Aside0.mk hl124_0
                                                   clear hi124_0 hl124_0
                                                   replace p124 := eq_true p124
                                                   replace q124 := eq_true q124
                                                   have ea_ := Option.some.inj (hx123_0.symm.trans hx124_0)
                                                   injection ea_ with ea_ en_ ec_
                                                   subst ea_
                                                   subst ec_
                                                   clear en_
                                                   have p125 : 0 ≤ (x10_3 : Int) := of_decide_eq_true (by assumption)
                                                   have q125 : x10_3 < (x6_4.length : Int) := of_decide_eq_true (by assumption)
                                                   obtain ⟨ad125, e125, hx125_0⟩ := Kd.at_int (Kd.R_reads' HO_6.out).2.2 x10_3 p125 q125
                                                   obtain rfl : ad118 = ad125 := (by injection e125)
                                                   replace p125 := eq_true p125
                                                   replace q125 := eq_true q125
                                                   have p126 : 0 ≤ ((rd x6_4 x10_3) : Int) := of_decide_eq_true (by assumption)
                                                   have q126 : (rd x6_4 x10_3) < ((rd_L1 l1 x10_3).length : Int) := of_decide_eq_true (by assumption)
                                                   obtain ⟨ad126, e126, hx126_0⟩ := Kd.at_int HR124_0.out (rd x6_4 x10_3) p126 q126
                                                   have hw126_0 := hx126_0
                                                   cases e126
                                                   replace hx126_0 := (HB.out.cell (World.block_lt_of_cell? w _ hx126_0)).trans hx126_0
                                                   replace p126 := eq_true p126
                                                   replace q126 := eq_true q126
                                                   have p127 : 0 ≤ (x10_3 : Int) := of_decide_eq_true (by assumption)
                                                   have q127 : x10_3 < (x7_4.length : Int) := of_decide_eq_true (by assumption)
                                                   obtain ⟨ad127, e127, hx127_0⟩ := Kd.at_int (Kd.R_reads' HO_7.out).2.2 x10_3 p127 q127
                                                   obtain rfl : (⟨go21, 0, none⟩ : Addr) = ad127 := (by injection e127)
                                                   (first | simp only [add_plain] at hx127_0 | simp only [add_at] at hx127_0 | simp only [Addr.add, Nat.zero_add] at hx127_0 | skip)
                                                   replace p127 := eq_true p127
                                                   replace q127 := eq_true q127
                                                   refine start_ (n := 27) (S := fun w' => w'.cell? (ad118.add (x10_3).toNat) = some (.int .i64 (rd x6_4 x10_3)) ∧ w'.cell? (ad119.add (x10_3).toNat) = some (.slice (some ad126) (rd_L1 l1 x10_3).length c123_0) ∧ w'.cell? (ad119.add (x10_3).toNat) = some (.slice (some ad126) (rd_L1 l1 x10_3).length c123_0) ∧ w'.cell? (ad118.add (x10_3).toNat) = some (.int .i64 (rd x6_4 x10_3)) ∧ w'.cell? (ad126.add ((rd x6_4 x10_3)).toNat) = some (.int .i64 (rd (rd_L1 l1 x10_3) (rd x6_4 x10_3))) ∧ w'.cell? ⟨go21, (x10_3).toNat, none⟩ = some (.int .i64 (rd x7_4 x10_3))) (ds := []) #[false, false, false, false, false, false, false, false, false, false, false, false, false, false, false, false, false, false, false, false, false, false, false, false, false, false, false] (by kernel_rfl) rfl rfl ⟨hx122_0, ((HB.out.cell (World.block_lt_of_cell? w _ hw123_0)).trans hw123_0), ((HB.out.cell (World.block_lt_of_cell? w _ hw124_0)).trans hw124_0), hx125_0, ((HB.out.cell (World.block_lt_of_cell? w _ hw126_0)).trans hw126_0), hx127_0⟩ (fun hHeld => ?_); refine with_tabW spec_serve.tab15 spec_serve.bits15 (fun HT_ HW_ => ?_)
                                                   generalize wr.drew = w50 at HO_5 HO_6 HO_7 HB HR123_0 HR124_0 hx122_0 hx123_0 hx124_0 hx125_0 hx126_0 hx127_0 hHeld ⊢
                                                   refine pure_ (i := 0) (N := some 58) (v := ?_) (a' := ?_) #[true, false, false, false, false, false, false, false, false, false, false, false, false, false, false, false, false, false, false, false, false, false, false, false, false, false, false] rfl rfl (any_of HT_.out (by kernel_rfl)) (fun _ _ _ h => h) (Or.inl ⟨by rfl, ?_⟩) ?_ ?_
                                                   rotate_left
                                                   · intro w'
                                                     go_simp
                                                     with_reducible rfl
                                                   rotate_left
                                                   · simp only [Act.put, List.setIfInBounds_toArray, List.set_cons_zero, List.set_cons_succ, i64_w, i32_w]
                                                     rfl
                                                   refine pure_ (i := 1) (N := some 59) (v := ?_) (a' := ?_) #[true, true, false, false, false, false, false, false, false, false, false, false, false, false, false, false, false, false, false, false, false, false, false, false, false, false, false] rfl rfl (any_of HT_.out (by kernel_rfl)) (fun _ _ _ h => h) (Or.inl ⟨by rfl, ?_⟩) ?_ ?_
                                                   rotate_left
                                                   · intro w'
                                                     go_simp
                                                     with_reducible rfl
                                                   rotate_left
                                                   · simp only [Act.put, List.setIfInBounds_toArray, List.set_cons_zero, List.set_cons_succ, i64_w, i32_w]
                                                     rfl
                                                   refine pure_ (i := 2) (N := some 60) (v := ?_) (a' := ?_) #[true, true, true, false, false, false, false, false, false, false, false, false, false, false, false, false, false, false, false, false, false, false, false, false, false, false, false] rfl rfl (any_of HT_.out (by kernel_rfl)) (fun _ _ _ h => h) (Or.inl ⟨by rfl, ?_⟩) ?_ ?_
                                                   rotate_left
                                                   · intro w'
                                                     go_simp
                                                     with_reducible rfl
                                                   rotate_left
                                                   · simp only [Act.put, List.setIfInBounds_toArray, List.set_cons_zero, List.set_cons_succ, i64_w, i32_w]
                                                     rfl
                                                   refine pure_ (i := 4) (N := some 62) (v := ?_) (a' := ?_) #[true, true, true, false, true, false, false, false, false, false, false, false, false, false, false, false, false, false, false, false, false, false, false, false, false, false, false] rfl rfl (any_of HT_.out (by kernel_rfl)) (fun _ _ _ h => h) (Or.inl ⟨by rfl, ?_⟩) ?_ ?_
                                                   rotate_left
                                                   · intro w'
                                                     go_simp
                                                     with_reducible rfl
                                                   rotate_left
                                                   · simp only [Act.put, List.setIfInBounds_toArray, List.set_cons_zero, List.set_cons_succ, i64_w, i32_w]
                                                     rfl
                                                   refine pure_ (i := 5) (N := some 63) (v := ?_) (a' := ?_) #[true, true, true, false, true, true, false, false, false, false, false, false, false, false, false, false, false, false, false, false, false, false, false, false, false, false, false] rfl rfl (any_of HT_.out (by kernel_rfl)) (fun _ _ _ h => h) (Or.inl ⟨by rfl, ?_⟩) ?_ ?_
                                                   rotate_left
                                                   · intro w'
                                                     go_simp
                                                     with_reducible rfl
                                                   rotate_left
                                                   · simp only [Act.put, List.setIfInBounds_toArray, List.set_cons_zero, List.set_cons_succ, i64_w, i32_w]
                                                     rfl
                                                   refine pure_ (i := 6) (N := some 64) (v := ?_) (a' := ?_) #[true, true, true, false, true, true, true, false, false, false, false, false, false, false, false, false, false, false, false, false, false, false, false, false, false, false, false] rfl rfl (any_of HT_.out (by kernel_rfl)) (fun _ _ _ h => h) (Or.inl ⟨by rfl, ?_⟩) ?_ ?_
                                                   rotate_left
                                                   · intro w'
                                                     go_simp
                                                     with_reducible rfl
                                                   rotate_left
                                                   · simp only [Act.put, List.setIfInBounds_toArray, List.set_cons_zero, List.set_cons_succ, i64_w, i32_w]
                                                     rfl
                                                   refine take_ (i := 3) (N := some 61) (v := ?_) (a' := ?_) #[true, true, true, true, true, true, true, false, false, false, false, false, false, false, false, false, false, false, false, false, false, false, false, false, false, false, false] rfl rfl (take_ofW HT_.out HW_.out (by kernel_rfl)) (fun _ _ _ h => h) (Or.inl ⟨by rfl, ?_⟩) hHeld ?_ ?_
                                                   rotate_left
                                                   · rintro w' ⟨s0, s1, s2, s3, s4, s5⟩
                                                     go_simp
                                                     with_reducible rfl
                                                   rotate_left
                                                   · simp only [Act.put, List.setIfInBounds_toArray, List.set_cons_zero, List.set_cons_succ, i64_w, i32_w]
                                                     rfl
                                                   refine take_ (i := 7) (N := some 65) (v := ?_) (a' := ?_) #[true, true, true, true, true, true, true, true, false, false, false, false, false, false, false, false, false, false, false, false, false, false, false, false, false, false, false] rfl rfl (take_ofW HT_.out HW_.out (by kernel_rfl)) (fun _ _ _ h => h) (Or.inl ⟨by rfl, ?_⟩) hHeld ?_ ?_
                                                   rotate_left
                                                   · rintro w' ⟨s0, s1, s2, s3, s4, s5⟩
                                                     go_simp
                                                     with_reducible rfl
                                                   rotate_left
                                                   · simp only [Act.put, List.setIfInBounds_toArray, List.set_cons_zero, List.set_cons_succ, i64_w, i32_w]
                                                     rfl
                                                   refine pure_ (i := 8) (N := some 66) (v := ?_) (a' := ?_) #[true, true, true, true, true, true, true, true, true, false, false, false, false, false, false, false, false, false, false, false, false, false, false, false, false, false, false] rfl rfl (any_of HT_.out (by kernel_rfl)) (fun _ _ _ h => h) (Or.inl ⟨by rfl, ?_⟩) ?_ ?_
                                                   rotate_left
                                                   · intro w'
                                                     go_simp
                                                     with_reducible rfl
                                                   rotate_left
                                                   · simp only [Act.put, List.setIfInBounds_toArray, List.set_cons_zero, List.set_cons_succ, i64_w, i32_w]
                                                     rfl
                                                   refine pure_ (i := 9) (N := some 67) (v := ?_) (a' := ?_) #[true, true, true, true, true, true, true, true, true, true, false, false, false, false, false, false, false, false, false, false, false, false, false, false, false, false, false] rfl rfl (any_of HT_.out (by kernel_rfl)) (fun _ _ _ h => h) (Or.inl ⟨by rfl, ?_⟩) ?_ ?_
                                                   rotate_left
                                                   · intro w'
                                                     go_simp
                                                     with_reducible rfl
                                                   rotate_left
                                                   · simp only [Act.put, List.setIfInBounds_toArray, List.set_cons_zero, List.set_cons_succ, i64_w, i32_w]
                                                     rfl
                                                   refine pure_ (i := 10) (N := some 68) (v := ?_) (a' := ?_) #[true, true, true, true, true, true, true, true, true, true, true, false, false, false, false, false, false, false, false, false, false, false, false, false, false, false, false] rfl rfl (any_of HT_.out (by kernel_rfl)) (fun _ _ _ h => h) (Or.inl ⟨by rfl, ?_⟩) ?_ ?_
                                                   rotate_left
                                                   · intro w'
                                                     go_simp
                                                     with_reducible rfl
                                                   rotate_left
                                                   · simp only [Act.put, List.setIfInBounds_toArray, List.set_cons_zero, List.set_cons_succ, i64_w, i32_w]
                                                     rfl
                                                   refine pure_ (i := 11) (N := some 69) (v := ?_) (a' := ?_) #[true, true, true, true, true, true, true, true, true, true, true, true, false, false, false, false, false, false, false, false, false, false, false, false, false, false, false] rfl rfl (any_of HT_.out (by kernel_rfl)) (fun _ _ _ h => h) (Or.inl ⟨by rfl, ?_⟩) ?_ ?_
                                                   rotate_left
                                                   · intro w'
                                                     go_simp
                                                     with_reducible rfl
                                                   rotate_left
                                                   · simp only [Act.put, List.setIfInBounds_toArray, List.set_cons_zero, List.set_cons_succ, i64_w, i32_w]
                                                     rfl
                                                   refine pure_ (i := 12) (N := some 70) (v := ?_) (a' := ?_) #[true, true, true, true, true, true, true, true, true, true, true, true, true, false, false, false, false, false, false, false, false, false, false, false, false, false, false] rfl rfl (any_of HT_.out (by kernel_rfl)) (fun _ _ _ h => h) (Or.inl ⟨by rfl, ?_⟩) ?_ ?_
                                                   rotate_left
                                                   · intro w'
                                                     go_simp
                                                     with_reducible rfl
                                                   rotate_left
                                                   · simp only [Act.put, List.setIfInBounds_toArray, List.set_cons_zero, List.set_cons_succ, i64_w, i32_w]
                                                     rfl
                                                   refine pure_ (i := 13) (N := some 71) (v := ?_) (a' := ?_) #[true, true, true, true, true, true, true, true, true, true, true, true, true, true, false, false, false, false, false, false, false, false, false, false, false, false, false] rfl rfl (any_of HT_.out (by kernel_rfl)) (fun _ _ _ h => h) (Or.inl ⟨by rfl, ?_⟩) ?_ ?_
                                                   rotate_left
                                                   · intro w'
                                                     go_simp
                                                     with_reducible rfl
                                                   rotate_left
                                                   · simp only [Act.put, List.setIfInBounds_toArray, List.set_cons_zero, List.set_cons_succ, i64_w, i32_w]
                                                     rfl
                                                   refine pure_ (i := 15) (N := some 73) (v := ?_) (a' := ?_) #[true, true, true, true, true, true, true, true, true, true, true, true, true, true, false, true, false, false, false, false, false, false, false, false, false, false, false] rfl rfl (any_of HT_.out (by kernel_rfl)) (fun _ _ _ h => h) (Or.inl ⟨by rfl, ?_⟩) ?_ ?_
                                                   rotate_left
                                                   · intro w'
                                                     go_simp
                                                     with_reducible rfl
                                                   rotate_left
                                                   · simp only [Act.put, List.setIfInBounds_toArray, List.set_cons_zero, List.set_cons_succ, i64_w, i32_w]
                                                     rfl
                                                   refine pure_ (i := 16) (N := some 74) (v := ?_) (a' := ?_) #[true, true, true, true, true, true, true, true, true, true, true, true, true, true, false, true, true, false, false, false, false, false, false, false, false, false, false] rfl rfl (any_of HT_.out (by kernel_rfl)) (fun _ _ _ h => h) (Or.inl ⟨by rfl, ?_⟩) ?_ ?_
                                                   rotate_left
                                                   · intro w'
                                                     go_simp
                                                     with_reducible rfl
                                                   rotate_left
                                                   · simp only [Act.put, List.setIfInBounds_toArray, List.set_cons_zero, List.set_cons_succ, i64_w, i32_w]
                                                     rfl
                                                   refine pure_ (i := 17) (N := some 75) (v := ?_) (a' := ?_) #[true, true, true, true, true, true, true, true, true, true, true, true, true, true, false, true, true, true, false, false, false, false, false, false, false, false, false] rfl rfl (any_of HT_.out (by kernel_rfl)) (fun _ _ _ h => h) (Or.inl ⟨by rfl, ?_⟩) ?_ ?_
                                                   rotate_left
                                                   · intro w'
                                                     go_simp
                                                     with_reducible rfl
                                                   rotate_left
                                                   · simp only [Act.put, List.setIfInBounds_toArray, List.set_cons_zero, List.set_cons_succ, i64_w, i32_w]
                                                     rfl
                                                   refine pure_ (i := 21) (N := some 79) (v := ?_) (a' := ?_) #[true, true, true, true, true, true, true, true, true, true, true, true, true, true, false, true, true, true, false, false, false, true, false, false, false, false, false] rfl rfl (any_of HT_.out (by kernel_rfl)) (fun _ _ _ h => h) (Or.inl ⟨by rfl, ?_⟩) ?_ ?_
                                                   rotate_left
                                                   · intro w'
                                                     go_simp
                                                     with_reducible rfl
                                                   rotate_left
                                                   · simp only [Act.put, List.setIfInBounds_toArray, List.set_cons_zero, List.set_cons_succ, i64_w, i32_w]
                                                     rfl
                                                   refine pure_ (i := 22) (N := some 80) (v := ?_) (a' := ?_) #[true, true, true, true, true, true, true, true, true, true, true, true, true, true, false, true, true, true, false, false, false, true, true, false, false, false, false] rfl rfl (any_of HT_.out (by kernel_rfl)) (fun _ _ _ h => h) (Or.inl ⟨by rfl, ?_⟩) ?_ ?_
                                                   rotate_left
                                                   · intro w'
                                                     go_simp
                                                     with_reducible rfl
                                                   rotate_left
                                                   · simp only [Act.put, List.setIfInBounds_toArray, List.set_cons_zero, List.set_cons_succ, i64_w, i32_w]
                                                     rfl
                                                   refine pure_ (i := 23) (N := some 81) (v := ?_) (a' := ?_) #[true, true, true, true, true, true, true, true, true, true, true, true, true, true, false, true, true, true, false, false, false, true, true, true, false, false, false] rfl rfl (any_of HT_.out (by kernel_rfl)) (fun _ _ _ h => h) (Or.inl ⟨by rfl, ?_⟩) ?_ ?_
                                                   rotate_left
                                                   · intro w'
                                                     go_simp
                                                     with_reducible rfl
                                                   rotate_left
                                                   · simp only [Act.put, List.setIfInBounds_toArray, List.set_cons_zero, List.set_cons_succ, i64_w, i32_w]
                                                     rfl
                                                   refine take_ (i := 14) (N := some 72) (v := ?_) (a' := ?_) #[true, true, true, true, true, true, true, true, true, true, true, true, true, true, true, true, true, true, false, false, false, true, true, true, false, false, false] rfl rfl (take_ofW HT_.out HW_.out (by kernel_rfl)) (fun _ _ _ h => h) (Or.inl ⟨by rfl, ?_⟩) hHeld ?_ ?_
                                                   rotate_left
                                                   · rintro w' ⟨s0, s1, s2, s3, s4, s5⟩
                                                     go_simp
                                                     with_reducible rfl
                                                   rotate_left
                                                   · simp only [Act.put, List.setIfInBounds_toArray, List.set_cons_zero, List.set_cons_succ, i64_w, i32_w]
                                                     rfl
                                                   refine take_ (i := 18) (N := some 76) (v := ?_) (a' := ?_) #[true, true, true, true, true, true, true, true, true, true, true, true, true, true, true, true, true, true, true, false, false, true, true, true, false, false, false] rfl rfl (take_ofW HT_.out HW_.out (by kernel_rfl)) (fun _ _ _ h => h) (Or.inl ⟨by rfl, ?_⟩) hHeld ?_ ?_
                                                   rotate_left
                                                   · rintro w' ⟨s0, s1, s2, s3, s4, s5⟩
                                                     go_simp
                                                     with_reducible rfl
                                                   rotate_left
                                                   · simp only [Act.put, List.setIfInBounds_toArray, List.set_cons_zero, List.set_cons_succ, i64_w, i32_w]
                                                     rfl
                                                   refine pure_ (i := 19) (N := some 77) (v := ?_) (a' := ?_) #[true, true, true, true, true, true, true, true, true, true, true, true, true, true, true, true, true, true, true, true, false, true, true, true, false, false, false] rfl rfl (any_of HT_.out (by kernel_rfl)) (fun _ _ _ h => h) (Or.inl ⟨by rfl, ?_⟩) ?_ ?_
                                                   rotate_left
                                                   · intro w'
                                                     go_simp
                                                     with_reducible rfl
                                                   rotate_left
                                                   · simp only [Act.put, List.setIfInBounds_toArray, List.set_cons_zero, List.set_cons_succ, i64_w, i32_w]
                                                     rfl
                                                   refine take_ (i := 20) (N := some 78) (v := ?_) (a' := ?_) #[true, true, true, true, true, true, true, true, true, true, true, true, true, true, true, true, true, true, true, true, true, true, true, true, false, false, false] rfl rfl (take_ofW HT_.out HW_.out (by kernel_rfl)) (fun _ _ _ h => h) (Or.inl ⟨by rfl, ?_⟩) hHeld ?_ ?_
                                                   rotate_left
                                                   · rintro w' ⟨s0, s1, s2, s3, s4, s5⟩
                                                     go_simp
                                                     with_reducible rfl
                                                   rotate_left
                                                   · simp only [Act.put, List.setIfInBounds_toArray, List.set_cons_zero, List.set_cons_succ, i64_w, i32_w]
                                                     rfl
                                                   refine take_ (i := 24) (N := some 82) (v := ?_) (a' := ?_) #[true, true, true, true, true, true, true, true, true, true, true, true, true, true, true, true, true, true, true, true, true, true, true, true, true, false, false] rfl rfl (take_ofW HT_.out HW_.out (by kernel_rfl)) (fun _ _ _ h => h) (Or.inl ⟨by rfl, ?_⟩) hHeld ?_ ?_
                                                   rotate_left
                                                   · rintro w' ⟨s0, s1, s2, s3, s4, s5⟩
                                                     go_simp
                                                     with_reducible rfl
                                                   rotate_left
                                                   · simp only [Act.put, List.setIfInBounds_toArray, List.set_cons_zero, List.set_cons_succ, i64_w, i32_w]
                                                     rfl
                                                   refine pure_ (i := 25) (N := some 83) (v := ?_) (a' := ?_) #[true, true, true, true, true, true, true, true, true, true, true, true, true, true, true, true, true, true, true, true, true, true, true, true, true, true, false] rfl rfl (any_of HT_.out (by kernel_rfl)) (fun _ _ _ h => h) (Or.inl ⟨by rfl, ?_⟩) ?_ ?_
                                                   rotate_left
                                                   · intro w'
                                                     go_simp
                                                     with_reducible rfl
                                                   rotate_left
                                                   · simp only [Act.put, List.setIfInBounds_toArray, List.set_cons_zero, List.set_cons_succ, i64_w, i32_w]
                                                     rfl
                                                   refine pure_ (i := 26) (N := some 84) (v := ?_) (a' := ?_) #[true, true, true, true, true, true, true, true, true, true, true, true, true, true, true, true, true, true, true, true, true, true, true, true, true, true, true] rfl rfl (any_of HT_.out (by kernel_rfl)) (fun _ _ _ h => h) (Or.inl ⟨by rfl, ?_⟩) ?_ ?_
                                                   rotate_left
                                                   · intro w'
                                                     go_simp
                                                     with_reducible rfl
                                                   rotate_left
                                                   · simp only [Act.put, List.setIfInBounds_toArray, List.set_cons_zero, List.set_cons_succ, i64_w, i32_w]
                                                     rfl
                                                   refine done_ (done_of HT_.out (by kernel_rfl)) ?_
                                                   try go_wp2
                                                   have n0_ := Aside0.mk (Kd.R_drew HO_5.out)
                                                   have n1_ := Aside0.mk (Kd.R_drew HO_6.out)
                                                   have n2_ := Aside0.mk (Kd.R_drew HO_7.out)
                                                   have n3_ := Aside0.mk (below_drew1 HB.out)
                                                   clear HO_5
                                                   clear HO_6
                                                   clear HO_7
                                                   clear HB
                                                   have HO_5 := n0_
                                                   have HO_6 := n1_
                                                   have HO_7 := n2_
                                                   have HB := n3_
                                                   clear n0_ n1_ n2_ n3_
                                                   have p138 : 0 ≤ (x10_3 : Int) := of_decide_eq_true (by assumption)
                                                   have q138 : x10_3 < (x6_4.length : Int) := of_decide_eq_true (by assumption)
                                                   obtain ⟨ad138, e138, hx138_0⟩ := Kd.at_int (Kd.R_reads' HO_6.out).2.2 x10_3 p138 q138
                                                   obtain rfl : ad118 = ad138 := (by injection e138)
                                                   replace p138 := eq_true p138
                                                   replace q138 := eq_true q138
                                                   have p139 : 0 ≤ (x10_3 : Int) := of_decide_eq_true (by assumption)
                                                   have q139 : x10_3 < (l1.length : Int) := of_decide_eq_true (by assumption)
                                                   obtain ⟨ad139, A139_0, c139_0, e139, hx139_0, hl139_0, hi139_0⟩ := at_L1 HR1.out x10_3 p139 q139
                                                   have hw139_0 := hx139_0
                                                   obtain rfl : ad119 = ad139 := (by injection e139)
                                                   replace hx139_0 := (HB.out.cell (World.block_lt_of_cell? w _ hx139_0)).trans hx139_0
                                                   have HR139_0 := Aside0.mk hi139_0
                                                   have HC139_0 := Aside0.mk hl139_0
                                                   clear hi139_0 hl139_0
                                                   replace p139 := eq_true p139
                                                   replace q139 := eq_true q139
                                                   refine start_ (n := 10) (S := fun w' => w'.cell? (ad118.add (x10_3).toNat) = some (.int .i64 (rd x6_4 x10_3)) ∧ w'.cell? (ad119.add (x10_3).toNat) = some (.slice A139_0 (rd_L1 l1 x10_3).length c139_0)) (ds := []) #[false, false, false, false, false, false, false, false, false, false] (by kernel_rfl) rfl rfl ⟨hx138_0, ((HB.out.cell (World.block_lt_of_cell? w _ hw139_0)).trans hw139_0)⟩ (fun hHeld => ?_); refine with_tabW spec_serve.tab20 spec_serve.bits20 (fun HT_ HW_ => ?_)
                                                   generalize w50.drew = w51 at HO_5 HO_6 HO_7 HB HR139_0 hx138_0 hx139_0 hHeld ⊢
                                                   refine pure_ (i := 0) (N := some 117) (v := ?_) (a' := ?_) #[true, false, false, false, false, false, false, false, false, false] rfl rfl (any_of HT_.out (by kernel_rfl)) (fun _ _ _ h => h) (Or.inl ⟨by rfl, ?_⟩) ?_ ?_
                                                   rotate_left
                                                   · intro w'
                                                     go_simp
                                                     with_reducible rfl
                                                   rotate_left
                                                   · simp only [Act.put, List.setIfInBounds_toArray, List.set_cons_zero, List.set_cons_succ, i64_w, i32_w]
                                                     rfl
                                                   refine pure_ (i := 1) (N := some 118) (v := ?_) (a' := ?_) #[true, true, false, false, false, false, false, false, false, false] rfl rfl (any_of HT_.out (by kernel_rfl)) (fun _ _ _ h => h) (Or.inl ⟨by rfl, ?_⟩) ?_ ?_
                                                   rotate_left
                                                   · intro w'
                                                     go_simp
                                                     with_reducible rfl
                                                   rotate_left
                                                   · simp only [Act.put, List.setIfInBounds_toArray, List.set_cons_zero, List.set_cons_succ, i64_w, i32_w]
                                                     rfl
                                                   refine pure_ (i := 2) (N := some 119) (v := ?_) (a' := ?_) #[true, true, true, false, false, false, false, false, false, false] rfl rfl (any_of HT_.out (by kernel_rfl)) (fun _ _ _ h => h) (Or.inl ⟨by rfl, ?_⟩) ?_ ?_
                                                   rotate_left
                                                   · intro w'
                                                     go_simp
                                                     with_reducible rfl
                                                   rotate_left
                                                   · simp only [Act.put, List.setIfInBounds_toArray, List.set_cons_zero, List.set_cons_succ, i64_w, i32_w]
                                                     rfl
                                                   refine pure_ (i := 4) (N := some 121) (v := ?_) (a' := ?_) #[true, true, true, false, true, false, false, false, false, false] rfl rfl (any_of HT_.out (by kernel_rfl)) (fun _ _ _ h => h) (Or.inl ⟨by rfl, ?_⟩) ?_ ?_
                                                   rotate_left
                                                   · intro w'
                                                     go_simp
                                                     with_reducible rfl
                                                   rotate_left
                                                   · simp only [Act.put, List.setIfInBounds_toArray, List.set_cons_zero, List.set_cons_succ, i64_w, i32_w]
                                                     rfl
                                                   refine pure_ (i := 5) (N := some 122) (v := ?_) (a' := ?_) #[true, true, true, false, true, true, false, false, false, false] rfl rfl (any_of HT_.out (by kernel_rfl)) (fun _ _ _ h => h) (Or.inl ⟨by rfl, ?_⟩) ?_ ?_
                                                   rotate_left
                                                   · intro w'
                                                     go_simp
                                                     with_reducible rfl
                                                   rotate_left
                                                   · simp only [Act.put, List.setIfInBounds_toArray, List.set_cons_zero, List.set_cons_succ, i64_w, i32_w]
                                                     rfl
                                                   refine pure_ (i := 6) (N := some 123) (v := ?_) (a' := ?_) #[true, true, true, false, true, true, true, false, false, false] rfl rfl (any_of HT_.out (by kernel_rfl)) (fun _ _ _ h => h) (Or.inl ⟨by rfl, ?_⟩) ?_ ?_
                                                   rotate_left
                                                   · intro w'
                                                     go_simp
                                                     with_reducible rfl
                                                   rotate_left
                                                   · simp only [Act.put, List.setIfInBounds_toArray, List.set_cons_zero, List.set_cons_succ, i64_w, i32_w]
                                                     rfl
                                                   refine take_ (i := 3) (N := some 120) (v := ?_) (a' := ?_) #[true, true, true, true, true, true, true, false, false, false] rfl rfl (take_ofW HT_.out HW_.out (by kernel_rfl)) (fun _ _ _ h => h) (Or.inl ⟨by rfl, ?_⟩) hHeld ?_ ?_
                                                   rotate_left
                                                   · rintro w' ⟨s0, s1⟩
                                                     go_simp
                                                     with_reducible rfl
                                                   rotate_left
                                                   · simp only [Act.put, List.setIfInBounds_toArray, List.set_cons_zero, List.set_cons_succ, i64_w, i32_w]
                                                     rfl
                                                   refine take_ (i := 7) (N := some 124) (v := ?_) (a' := ?_) #[true, true, true, true, true, true, true, true, false, false] rfl rfl (take_ofW HT_.out HW_.out (by kernel_rfl)) (fun _ _ _ h => h) (Or.inl ⟨by rfl, ?_⟩) hHeld ?_ ?_
                                                   rotate_left
                                                   · rintro w' ⟨s0, s1⟩
                                                     go_simp
                                                     with_reducible rfl
                                                   rotate_left
                                                   · simp only [Act.put, List.setIfInBounds_toArray, List.set_cons_zero, List.set_cons_succ, i64_w, i32_w]
                                                     rfl
                                                   refine pure_ (i := 8) (N := some 125) (v := ?_) (a' := ?_) #[true, true, true, true, true, true, true, true, true, false] rfl rfl (any_of HT_.out (by kernel_rfl)) (fun _ _ _ h => h) (Or.inl ⟨by rfl, ?_⟩) ?_ ?_
                                                   rotate_left
                                                   · intro w'
                                                     go_simp
                                                     with_reducible rfl
                                                   rotate_left
                                                   · simp only [Act.put, List.setIfInBounds_toArray, List.set_cons_zero, List.set_cons_succ, i64_w, i32_w]
                                                     rfl
                                                   refine pure_ (i := 9) (N := some 126) (v := ?_) (a' := ?_) #[true, true, true, true, true, true, true, true, true, true] rfl rfl (any_of HT_.out (by kernel_rfl)) (fun _ _ _ h => h) (Or.inl ⟨by rfl, ?_⟩) ?_ ?_
                                                   rotate_left
                                                   · intro w'
                                                     go_simp
                                                     with_reducible rfl
                                                   rotate_left
                                                   · simp only [Act.put, List.setIfInBounds_toArray, List.set_cons_zero, List.set_cons_succ, i64_w, i32_w]
                                                     rfl
                                                   refine done_ (done_of HT_.out (by kernel_rfl)) ?_
                                                   try go_wp2
                                                   (try simp only [← hl6_4, ← hl7_4])
                                                   go_roundg k4
                                                   case measure => have := HK1.out; have := HK2.out; have := HK3.out; have := HK4.out; omega
                                                   case rel => exact ⟨(x5_4), (x6_4), (x7_4), (x8_4), (wrap64 (x10_3 + 1)), (by first | rfl | (simp; done) | (simp [*]; done)), (by first | rfl | (simp; done) | (simp [*]; done)), H', ⟨by have := HK1.out; have := HK2.out; have := HK3.out; have := HK4.out; omega⟩, ⟨by (try simp only [hl6_4]); (try simp only [hl7_4]); (with_reducible repeat (first | apply Kd.R_alloc | apply Kd.R_drewN | apply Kd.R_drew)); exact HO_5.out⟩, ⟨by (try simp only [hl6_4]); (try simp only [hl7_4]); (with_reducible repeat (first | apply Kd.R_alloc | apply Kd.R_drewN | apply Kd.R_drew)); exact HO_6.out⟩, ⟨by (try simp only [hl6_4]); (try simp only [hl7_4]); (with_reducible repeat (first | apply Kd.R_alloc | apply Kd.R_drewN | apply Kd.R_drew)); exact HO_7.out⟩, ⟨by repeat (first | (with_reducible first | exact HB.out | apply below_alloc | apply pw_below_drewN | apply below_drew1) | exact HB.out)⟩⟩
                                             · rw [if_neg c32] at H
                                               exact absurd H (by simp)
                                           · rw [if_neg c31] at H
                                             exact absurd H (by simp)
                                         · rw [if_neg c30] at H
                                           have c30b0 : decide ((rd x6_4 x10_3) < ((rd_L1 l1 x10_3).length : Int)) = false := decide_eq_false c30
                                           clear c30
                                           by_cases c52 : (rd x6_4 x10_3) = ((rd_L1 l1 x10_3).length : Int)
                                           · rw [if_pos c52] at H
                                             have c52b0 : ((rd x6_4 x10_3) == ((rd_L1 l1 x10_3).length : Int)) = true := beq_iff_eq.mpr c52
                                             have c52b1 : ((rd x6_4 x10_3) != ((rd_L1 l1 x10_3).length : Int)) = false := bne_eq_false_iff_eq.mpr c52
                                             clear c52
                                             by_cases c53 : x10_3 < (x7_4.length : Int)
                                             · rw [if_pos c53] at H
                                               have c53b0 : decide (x10_3 < (x7_4.length : Int)) = true := decide_eq_true c53
                                               clear c53
                                               obtain ⟨y143, hy143⟩ : ∃ y_ : List Int, y_ = (x7_4.set (x10_3 : Int).toNat 0) := ⟨_, rfl⟩
                                               replace H : (spec_serve.l2 k4 a0 l1 x5_4 x6_4 y143 x8_4 (wrap64 (x10_3 + 1))) = some r := by first | (rw [hy143]; with_reducible exact H) | (have H2_ := (Option.bind_some _ _).symm.trans H; rw [hy143]; with_reducible exact H2_) | (have H2_ := (Option.bind_some _ _).symm.trans H; with_reducible exact H2_) | with_reducible exact H | (rw [hy143]; exact H) | exact H
                                               have Ny143 := Aside0.mk hy143
                                               clear hy143
                                               have H' := Aside0.mk H
                                               clear H
                                               try go_wp2
                                               have n0_ := Aside0.mk (Kd.R_drew HO_5.out)
                                               have n1_ := Aside0.mk (Kd.R_drew HO_6.out)
                                               have n2_ := Aside0.mk (Kd.R_drew HO_7.out)
                                               have n3_ := Aside0.mk (below_drew1 HB.out)
                                               clear HO_5
                                               clear HO_6
                                               clear HO_7
                                               clear HB
                                               have HO_5 := n0_
                                               have HO_6 := n1_
                                               have HO_7 := n2_
                                               have HB := n3_
                                               clear n0_ n1_ n2_ n3_
                                               have p122 : 0 ≤ (x10_3 : Int) := of_decide_eq_true (by assumption)
                                               have q122 : x10_3 < (x6_4.length : Int) := of_decide_eq_true (by assumption)
                                               obtain ⟨ad122, e122, hx122_0⟩ := Kd.at_int (Kd.R_reads' HO_6.out).2.2 x10_3 p122 q122
                                               obtain rfl : ad118 = ad122 := (by injection e122)
                                               replace p122 := eq_true p122
                                               replace q122 := eq_true q122
                                               have p123 : 0 ≤ (x10_3 : Int) := of_decide_eq_true (by assumption)
                                               have q123 : x10_3 < (l1.length : Int) := of_decide_eq_true (by assumption)
                                               obtain ⟨ad123, A123_0, c123_0, e123, hx123_0, hl123_0, hi123_0⟩ := at_L1 HR1.out x10_3 p123 q123
                                               have hw123_0 := hx123_0
                                               obtain rfl : ad119 = ad123 := (by injection e123)
                                               replace hx123_0 := (HB.out.cell (World.block_lt_of_cell? w _ hx123_0)).trans hx123_0
                                               have HR123_0 := Aside0.mk hi123_0
                                               have HC123_0 := Aside0.mk hl123_0
                                               clear hi123_0 hl123_0
                                               replace p123 := eq_true p123
                                               replace q123 := eq_true q123
                                               refine start_ (n := 27) (S := fun w' => w'.cell? (ad118.add (x10_3).toNat) = some (.int .i64 (rd x6_4 x10_3)) ∧ w'.cell? (ad119.add (x10_3).toNat) = some (.slice A123_0 (rd_L1 l1 x10_3).length c123_0)) (ds := []) #[false, false, false, false, false, false, false, false, false, false, false, false, false, false, false, false, false, false, false, false, false, false, false, false, false, false, false] (by kernel_rfl) rfl rfl ⟨hx122_0, ((HB.out.cell (World.block_lt_of_cell? w _ hw123_0)).trans hw123_0)⟩ (fun hHeld => ?_); refine with_tabW spec_serve.tab15 spec_serve.bits15 (fun HT_ HW_ => ?_)
                                               generalize wr.drew = w55 at HO_5 HO_6 HO_7 HB HR123_0 hx122_0 hx123_0 hHeld ⊢
                                               refine pure_ (i := 0) (N := some 58) (v := ?_) (a' := ?_) #[true, false, false, false, false, false, false, false, false, false, false, false, false, false, false, false, false, false, false, false, false, false, false, false, false, false, false] rfl rfl (any_of HT_.out (by kernel_rfl)) (fun _ _ _ h => h) (Or.inl ⟨by rfl, ?_⟩) ?_ ?_
                                               rotate_left
                                               · intro w'
                                                 go_simp
                                                 with_reducible rfl
                                               rotate_left
                                               · simp only [Act.put, List.setIfInBounds_toArray, List.set_cons_zero, List.set_cons_succ, i64_w, i32_w]
                                                 rfl
                                               refine pure_ (i := 1) (N := some 59) (v := ?_) (a' := ?_) #[true, true, false, false, false, false, false, false, false, false, false, false, false, false, false, false, false, false, false, false, false, false, false, false, false, false, false] rfl rfl (any_of HT_.out (by kernel_rfl)) (fun _ _ _ h => h) (Or.inl ⟨by rfl, ?_⟩) ?_ ?_
                                               rotate_left
                                               · intro w'
                                                 go_simp
                                                 with_reducible rfl
                                               rotate_left
                                               · simp only [Act.put, List.setIfInBounds_toArray, List.set_cons_zero, List.set_cons_succ, i64_w, i32_w]
                                                 rfl
                                               refine pure_ (i := 2) (N := some 60) (v := ?_) (a' := ?_) #[true, true, true, false, false, false, false, false, false, false, false, false, false, false, false, false, false, false, false, false, false, false, false, false, false, false, false] rfl rfl (any_of HT_.out (by kernel_rfl)) (fun _ _ _ h => h) (Or.inl ⟨by rfl, ?_⟩) ?_ ?_
                                               rotate_left
                                               · intro w'
                                                 go_simp
                                                 with_reducible rfl
                                               rotate_left
                                               · simp only [Act.put, List.setIfInBounds_toArray, List.set_cons_zero, List.set_cons_succ, i64_w, i32_w]
                                                 rfl
                                               refine pure_ (i := 4) (N := some 62) (v := ?_) (a' := ?_) #[true, true, true, false, true, false, false, false, false, false, false, false, false, false, false, false, false, false, false, false, false, false, false, false, false, false, false] rfl rfl (any_of HT_.out (by kernel_rfl)) (fun _ _ _ h => h) (Or.inl ⟨by rfl, ?_⟩) ?_ ?_
                                               rotate_left
                                               · intro w'
                                                 go_simp
                                                 with_reducible rfl
                                               rotate_left
                                               · simp only [Act.put, List.setIfInBounds_toArray, List.set_cons_zero, List.set_cons_succ, i64_w, i32_w]
                                                 rfl
                                               refine pure_ (i := 5) (N := some 63) (v := ?_) (a' := ?_) #[true, true, true, false, true, true, false, false, false, false, false, false, false, false, false, false, false, false, false, false, false, false, false, false, false, false, false] rfl rfl (any_of HT_.out (by kernel_rfl)) (fun _ _ _ h => h) (Or.inl ⟨by rfl, ?_⟩) ?_ ?_
                                               rotate_left
                                               · intro w'
                                                 go_simp
                                                 with_reducible rfl
                                               rotate_left
                                               · simp only [Act.put, List.setIfInBounds_toArray, List.set_cons_zero, List.set_cons_succ, i64_w, i32_w]
                                                 rfl
                                               refine pure_ (i := 6) (N := some 64) (v := ?_) (a' := ?_) #[true, true, true, false, true, true, true, false, false, false, false, false, false, false, false, false, false, false, false, false, false, false, false, false, false, false, false] rfl rfl (any_of HT_.out (by kernel_rfl)) (fun _ _ _ h => h) (Or.inl ⟨by rfl, ?_⟩) ?_ ?_
                                               rotate_left
                                               · intro w'
                                                 go_simp
                                                 with_reducible rfl
                                               rotate_left
                                               · simp only [Act.put, List.setIfInBounds_toArray, List.set_cons_zero, List.set_cons_succ, i64_w, i32_w]
                                                 rfl
                                               refine take_ (i := 3) (N := some 61) (v := ?_) (a' := ?_) #[true, true, true, true, true, true, true, false, false, false, false, false, false, false, false, false, false, false, false, false, false, false, false, false, false, false, false] rfl rfl (take_ofW HT_.out HW_.out (by kernel_rfl)) (fun _ _ _ h => h) (Or.inl ⟨by rfl, ?_⟩) hHeld ?_ ?_
                                               rotate_left
                                               · rintro w' ⟨s0, s1⟩
                                                 go_simp
                                                 with_reducible rfl
                                               rotate_left
                                               · simp only [Act.put, List.setIfInBounds_toArray, List.set_cons_zero, List.set_cons_succ, i64_w, i32_w]
                                                 rfl
                                               refine take_ (i := 7) (N := some 65) (v := ?_) (a' := ?_) #[true, true, true, true, true, true, true, true, false, false, false, false, false, false, false, false, false, false, false, false, false, false, false, false, false, false, false] rfl rfl (take_ofW HT_.out HW_.out (by kernel_rfl)) (fun _ _ _ h => h) (Or.inl ⟨by rfl, ?_⟩) hHeld ?_ ?_
                                               rotate_left
                                               · rintro w' ⟨s0, s1⟩
                                                 go_simp
                                                 with_reducible rfl
                                               rotate_left
                                               · simp only [Act.put, List.setIfInBounds_toArray, List.set_cons_zero, List.set_cons_succ, i64_w, i32_w]
                                                 rfl
                                               refine pure_ (i := 8) (N := some 66) (v := ?_) (a' := ?_) #[true, true, true, true, true, true, true, true, true, false, false, false, false, false, false, false, false, false, false, false, false, false, false, false, false, false, false] rfl rfl (any_of HT_.out (by kernel_rfl)) (fun _ _ _ h => h) (Or.inl ⟨by rfl, ?_⟩) ?_ ?_
                                               rotate_left
                                               · intro w'
                                                 go_simp
                                                 with_reducible rfl
                                               rotate_left
                                               · simp only [Act.put, List.setIfInBounds_toArray, List.set_cons_zero, List.set_cons_succ, i64_w, i32_w]
                                                 rfl
                                               refine pure_ (i := 9) (N := some 67) (v := ?_) (a' := ?_) #[true, true, true, true, true, true, true, true, true, true, false, false, false, false, false, false, false, false, false, false, false, false, false, false, false, false, false] rfl rfl (any_of HT_.out (by kernel_rfl)) (fun _ _ _ h => h) (Or.inl ⟨by rfl, ?_⟩) ?_ ?_
                                               rotate_left
                                               · intro w'
                                                 go_simp
                                                 with_reducible rfl
                                               rotate_left
                                               · simp only [Act.put, List.setIfInBounds_toArray, List.set_cons_zero, List.set_cons_succ, i64_w, i32_w]
                                                 rfl
                                               refine pure_ (i := 10) (N := some 68) (v := ?_) (a' := ?_) #[true, true, true, true, true, true, true, true, true, true, true, false, false, false, false, false, false, false, false, false, false, false, false, false, false, false, false] rfl rfl (any_of HT_.out (by kernel_rfl)) (fun _ _ _ h => h) (Or.inl ⟨by rfl, ?_⟩) ?_ ?_
                                               rotate_left
                                               · intro w'
                                                 go_simp
                                                 with_reducible rfl
                                               rotate_left
                                               · simp only [Act.put, List.setIfInBounds_toArray, List.set_cons_zero, List.set_cons_succ, i64_w, i32_w]
                                                 rfl
                                               refine pure_ (i := 11) (N := some 69) (v := undef) (a' := ?_) #[true, true, true, true, true, true, true, true, true, true, true, true, false, false, false, false, false, false, false, false, false, false, false, false, false, false, false] rfl rfl (any_of HT_.out (by kernel_rfl)) (fun _ _ _ h => h) (Or.inr ⟨by rfl, rfl⟩) ?_ ?_
                                               rotate_left
                                               · simp only [Act.put, List.setIfInBounds_toArray, List.set_cons_zero, List.set_cons_succ, i64_w, i32_w]
                                                 rfl
                                               refine pure_ (i := 12) (N := some 70) (v := undef) (a' := ?_) #[true, true, true, true, true, true, true, true, true, true, true, true, true, false, false, false, false, false, false, false, false, false, false, false, false, false, false] rfl rfl (any_of HT_.out (by kernel_rfl)) (fun _ _ _ h => h) (Or.inr ⟨by rfl, rfl⟩) ?_ ?_
                                               rotate_left
                                               · simp only [Act.put, List.setIfInBounds_toArray, List.set_cons_zero, List.set_cons_succ, i64_w, i32_w]
                                                 rfl
                                               refine pure_ (i := 13) (N := some 71) (v := undef) (a' := ?_) #[true, true, true, true, true, true, true, true, true, true, true, true, true, true, false, false, false, false, false, false, false, false, false, false, false, false, false] rfl rfl (any_of HT_.out (by kernel_rfl)) (fun _ _ _ h => h) (Or.inr ⟨by rfl, rfl⟩) ?_ ?_
                                               rotate_left
                                               · simp only [Act.put, List.setIfInBounds_toArray, List.set_cons_zero, List.set_cons_succ, i64_w, i32_w]
                                                 rfl
                                               refine pure_ (i := 14) (N := some 72) (v := undef) (a' := ?_) #[true, true, true, true, true, true, true, true, true, true, true, true, true, true, true, false, false, false, false, false, false, false, false, false, false, false, false] rfl rfl (any_of HT_.out (by kernel_rfl)) (fun _ _ _ h => h) (Or.inr ⟨by rfl, rfl⟩) ?_ ?_
                                               rotate_left
                                               · simp only [Act.put, List.setIfInBounds_toArray, List.set_cons_zero, List.set_cons_succ, i64_w, i32_w]
                                                 rfl
                                               refine pure_ (i := 15) (N := some 73) (v := undef) (a' := ?_) #[true, true, true, true, true, true, true, true, true, true, true, true, true, true, true, true, false, false, false, false, false, false, false, false, false, false, false] rfl rfl (any_of HT_.out (by kernel_rfl)) (fun _ _ _ h => h) (Or.inr ⟨by rfl, rfl⟩) ?_ ?_
                                               rotate_left
                                               · simp only [Act.put, List.setIfInBounds_toArray, List.set_cons_zero, List.set_cons_succ, i64_w, i32_w]
                                                 rfl
                                               refine pure_ (i := 16) (N := some 74) (v := undef) (a' := ?_) #[true, true, true, true, true, true, true, true, true, true, true, true, true, true, true, true, true, false, false, false, false, false, false, false, false, false, false] rfl rfl (any_of HT_.out (by kernel_rfl)) (fun _ _ _ h => h) (Or.inr ⟨by rfl, rfl⟩) ?_ ?_
                                               rotate_left
                                               · simp only [Act.put, List.setIfInBounds_toArray, List.set_cons_zero, List.set_cons_succ, i64_w, i32_w]
                                                 rfl
                                               refine pure_ (i := 17) (N := some 75) (v := undef) (a' := ?_) #[true, true, true, true, true, true, true, true, true, true, true, true, true, true, true, true, true, true, false, false, false, false, false, false, false, false, false] rfl rfl (any_of HT_.out (by kernel_rfl)) (fun _ _ _ h => h) (Or.inr ⟨by rfl, rfl⟩) ?_ ?_
                                               rotate_left
                                               · simp only [Act.put, List.setIfInBounds_toArray, List.set_cons_zero, List.set_cons_succ, i64_w, i32_w]
                                                 rfl
                                               refine pure_ (i := 18) (N := some 76) (v := undef) (a' := ?_) #[true, true, true, true, true, true, true, true, true, true, true, true, true, true, true, true, true, true, true, false, false, false, false, false, false, false, false] rfl rfl (any_of HT_.out (by kernel_rfl)) (fun _ _ _ h => h) (Or.inr ⟨by rfl, rfl⟩) ?_ ?_
                                               rotate_left
                                               · simp only [Act.put, List.setIfInBounds_toArray, List.set_cons_zero, List.set_cons_succ, i64_w, i32_w]
                                                 rfl
                                               refine pure_ (i := 19) (N := some 77) (v := undef) (a' := ?_) #[true, true, true, true, true, true, true, true, true, true, true, true, true, true, true, true, true, true, true, true, false, false, false, false, false, false, false] rfl rfl (any_of HT_.out (by kernel_rfl)) (fun _ _ _ h => h) (Or.inr ⟨by rfl, rfl⟩) ?_ ?_
                                               rotate_left
                                               · simp only [Act.put, List.setIfInBounds_toArray, List.set_cons_zero, List.set_cons_succ, i64_w, i32_w]
                                                 rfl
                                               refine pure_ (i := 20) (N := some 78) (v := undef) (a' := ?_) #[true, true, true, true, true, true, true, true, true, true, true, true, true, true, true, true, true, true, true, true, true, false, false, false, false, false, false] rfl rfl (any_of HT_.out (by kernel_rfl)) (fun _ _ _ h => h) (Or.inr ⟨by rfl, rfl⟩) ?_ ?_
                                               rotate_left
                                               · simp only [Act.put, List.setIfInBounds_toArray, List.set_cons_zero, List.set_cons_succ, i64_w, i32_w]
                                                 rfl
                                               refine pure_ (i := 21) (N := some 79) (v := undef) (a' := ?_) #[true, true, true, true, true, true, true, true, true, true, true, true, true, true, true, true, true, true, true, true, true, true, false, false, false, false, false] rfl rfl (any_of HT_.out (by kernel_rfl)) (fun _ _ _ h => h) (Or.inr ⟨by rfl, rfl⟩) ?_ ?_
                                               rotate_left
                                               · simp only [Act.put, List.setIfInBounds_toArray, List.set_cons_zero, List.set_cons_succ, i64_w, i32_w]
                                                 rfl
                                               refine pure_ (i := 22) (N := some 80) (v := undef) (a' := ?_) #[true, true, true, true, true, true, true, true, true, true, true, true, true, true, true, true, true, true, true, true, true, true, true, false, false, false, false] rfl rfl (any_of HT_.out (by kernel_rfl)) (fun _ _ _ h => h) (Or.inr ⟨by rfl, rfl⟩) ?_ ?_
                                               rotate_left
                                               · simp only [Act.put, List.setIfInBounds_toArray, List.set_cons_zero, List.set_cons_succ, i64_w, i32_w]
                                                 rfl
                                               refine pure_ (i := 23) (N := some 81) (v := undef) (a' := ?_) #[true, true, true, true, true, true, true, true, true, true, true, true, true, true, true, true, true, true, true, true, true, true, true, true, false, false, false] rfl rfl (any_of HT_.out (by kernel_rfl)) (fun _ _ _ h => h) (Or.inr ⟨by rfl, rfl⟩) ?_ ?_
                                               rotate_left
                                               · simp only [Act.put, List.setIfInBounds_toArray, List.set_cons_zero, List.set_cons_succ, i64_w, i32_w]
                                                 rfl
                                               refine pure_ (i := 24) (N := some 82) (v := undef) (a' := ?_) #[true, true, true, true, true, true, true, true, true, true, true, true, true, true, true, true, true, true, true, true, true, true, true, true, true, false, false] rfl rfl (any_of HT_.out (by kernel_rfl)) (fun _ _ _ h => h) (Or.inr ⟨by rfl, rfl⟩) ?_ ?_
                                               rotate_left
                                               · simp only [Act.put, List.setIfInBounds_toArray, List.set_cons_zero, List.set_cons_succ, i64_w, i32_w]
                                                 rfl
                                               refine pure_ (i := 25) (N := some 83) (v := undef) (a' := ?_) #[true, true, true, true, true, true, true, true, true, true, true, true, true, true, true, true, true, true, true, true, true, true, true, true, true, true, false] rfl rfl (any_of HT_.out (by kernel_rfl)) (fun _ _ _ h => h) (Or.inr ⟨by rfl, rfl⟩) ?_ ?_
                                               rotate_left
                                               · simp only [Act.put, List.setIfInBounds_toArray, List.set_cons_zero, List.set_cons_succ, i64_w, i32_w]
                                                 rfl
                                               refine pure_ (i := 26) (N := some 84) (v := ?_) (a' := ?_) #[true, true, true, true, true, true, true, true, true, true, true, true, true, true, true, true, true, true, true, true, true, true, true, true, true, true, true] rfl rfl (any_of HT_.out (by kernel_rfl)) (fun _ _ _ h => h) (Or.inl ⟨by rfl, ?_⟩) ?_ ?_
                                               rotate_left
                                               · intro w'
                                                 go_simp
                                                 with_reducible rfl
                                               rotate_left
                                               · simp only [Act.put, List.setIfInBounds_toArray, List.set_cons_zero, List.set_cons_succ, i64_w, i32_w]
                                                 rfl
                                               refine done_ (done_of HT_.out (by kernel_rfl)) ?_
                                               try go_wp2
                                               have n0_ := Aside0.mk (Kd.R_drew HO_5.out)
                                               have n1_ := Aside0.mk (Kd.R_drew HO_6.out)
                                               have n2_ := Aside0.mk (Kd.R_drew HO_7.out)
                                               have n3_ := Aside0.mk (below_drew1 HB.out)
                                               clear HO_5
                                               clear HO_6
                                               clear HO_7
                                               clear HB
                                               have HO_5 := n0_
                                               have HO_6 := n1_
                                               have HO_7 := n2_
                                               have HB := n3_
                                               clear n0_ n1_ n2_ n3_
                                               have p141 : 0 ≤ (x10_3 : Int) := of_decide_eq_true (by assumption)
                                               have q141 : x10_3 < (x6_4.length : Int) := of_decide_eq_true (by assumption)
                                               obtain ⟨ad141, e141, hx141_0⟩ := Kd.at_int (Kd.R_reads' HO_6.out).2.2 x10_3 p141 q141
                                               obtain rfl : ad118 = ad141 := (by injection e141)
                                               replace p141 := eq_true p141
                                               replace q141 := eq_true q141
                                               have p142 : 0 ≤ (x10_3 : Int) := of_decide_eq_true (by assumption)
                                               have q142 : x10_3 < (l1.length : Int) := of_decide_eq_true (by assumption)
                                               obtain ⟨ad142, A142_0, c142_0, e142, hx142_0, hl142_0, hi142_0⟩ := at_L1 HR1.out x10_3 p142 q142
                                               have hw142_0 := hx142_0
                                               obtain rfl : ad119 = ad142 := (by injection e142)
                                               replace hx142_0 := (HB.out.cell (World.block_lt_of_cell? w _ hx142_0)).trans hx142_0
                                               have HR142_0 := Aside0.mk hi142_0
                                               have HC142_0 := Aside0.mk hl142_0
                                               clear hi142_0 hl142_0
                                               replace p142 := eq_true p142
                                               replace q142 := eq_true q142
                                               refine start_ (n := 10) (S := fun w' => w'.cell? (ad118.add (x10_3).toNat) = some (.int .i64 (rd x6_4 x10_3)) ∧ w'.cell? (ad119.add (x10_3).toNat) = some (.slice A142_0 (rd_L1 l1 x10_3).length c142_0)) (ds := []) #[false, false, false, false, false, false, false, false, false, false] (by kernel_rfl) rfl rfl ⟨hx141_0, ((HB.out.cell (World.block_lt_of_cell? w _ hw142_0)).trans hw142_0)⟩ (fun hHeld => ?_); refine with_tabW spec_serve.tab20 spec_serve.bits20 (fun HT_ HW_ => ?_)
                                               generalize w55.drew = w56 at HO_5 HO_6 HO_7 HB HR142_0 hx141_0 hx142_0 hHeld ⊢
                                               refine pure_ (i := 0) (N := some 117) (v := ?_) (a' := ?_) #[true, false, false, false, false, false, false, false, false, false] rfl rfl (any_of HT_.out (by kernel_rfl)) (fun _ _ _ h => h) (Or.inl ⟨by rfl, ?_⟩) ?_ ?_
                                               rotate_left
                                               · intro w'
                                                 go_simp
                                                 with_reducible rfl
                                               rotate_left
                                               · simp only [Act.put, List.setIfInBounds_toArray, List.set_cons_zero, List.set_cons_succ, i64_w, i32_w]
                                                 rfl
                                               refine pure_ (i := 1) (N := some 118) (v := ?_) (a' := ?_) #[true, true, false, false, false, false, false, false, false, false] rfl rfl (any_of HT_.out (by kernel_rfl)) (fun _ _ _ h => h) (Or.inl ⟨by rfl, ?_⟩) ?_ ?_
                                               rotate_left
                                               · intro w'
                                                 go_simp
                                                 with_reducible rfl
                                               rotate_left
                                               · simp only [Act.put, List.setIfInBounds_toArray, List.set_cons_zero, List.set_cons_succ, i64_w, i32_w]
                                                 rfl
                                               refine pure_ (i := 2) (N := some 119) (v := ?_) (a' := ?_) #[true, true, true, false, false, false, false, false, false, false] rfl rfl (any_of HT_.out (by kernel_rfl)) (fun _ _ _ h => h) (Or.inl ⟨by rfl, ?_⟩) ?_ ?_
                                               rotate_left
                                               · intro w'
                                                 go_simp
                                                 with_reducible rfl
                                               rotate_left
                                               · simp only [Act.put, List.setIfInBounds_toArray, List.set_cons_zero, List.set_cons_succ, i64_w, i32_w]
                                                 rfl
                                               refine pure_ (i := 4) (N := some 121) (v := ?_) (a' := ?_) #[true, true, true, false, true, false, false, false, false, false] rfl rfl (any_of HT_.out (by kernel_rfl)) (fun _ _ _ h => h) (Or.inl ⟨by rfl, ?_⟩) ?_ ?_
                                               rotate_left
                                               · intro w'
                                                 go_simp
                                                 with_reducible rfl
                                               rotate_left
                                               · simp only [Act.put, List.setIfInBounds_toArray, List.set_cons_zero, List.set_cons_succ, i64_w, i32_w]
                                                 rfl
                                               refine pure_ (i := 5) (N := some 122) (v := ?_) (a' := ?_) #[true, true, true, false, true, true, false, false, false, false] rfl rfl (any_of HT_.out (by kernel_rfl)) (fun _ _ _ h => h) (Or.inl ⟨by rfl, ?_⟩) ?_ ?_
                                               rotate_left
                                               · intro w'
                                                 go_simp
                                                 with_reducible rfl
                                               rotate_left
                                               · simp only [Act.put, List.setIfInBounds_toArray, List.set_cons_zero, List.set_cons_succ, i64_w, i32_w]
                                                 rfl
                                               refine pure_ (i := 6) (N := some 123) (v := ?_) (a' := ?_) #[true, true, true, false, true, true, true, false, false, false] rfl rfl (any_of HT_.out (by kernel_rfl)) (fun _ _ _ h => h) (Or.inl ⟨by rfl, ?_⟩) ?_ ?_
                                               rotate_left
                                               · intro w'
                                                 go_simp
                                                 with_reducible rfl
                                               rotate_left
                                               · simp only [Act.put, List.setIfInBounds_toArray, List.set_cons_zero, List.set_cons_succ, i64_w, i32_w]
                                                 rfl
                                               refine take_ (i := 3) (N := some 120) (v := ?_) (a' := ?_) #[true, true, true, true, true, true, true, false, false, false] rfl rfl (take_ofW HT_.out HW_.out (by kernel_rfl)) (fun _ _ _ h => h) (Or.inl ⟨by rfl, ?_⟩) hHeld ?_ ?_
                                               rotate_left
                                               · rintro w' ⟨s0, s1⟩
                                                 go_simp
                                                 with_reducible rfl
                                               rotate_left
                                               · simp only [Act.put, List.setIfInBounds_toArray, List.set_cons_zero, List.set_cons_succ, i64_w, i32_w]
                                                 rfl
                                               refine take_ (i := 7) (N := some 124) (v := ?_) (a' := ?_) #[true, true, true, true, true, true, true, true, false, false] rfl rfl (take_ofW HT_.out HW_.out (by kernel_rfl)) (fun _ _ _ h => h) (Or.inl ⟨by rfl, ?_⟩) hHeld ?_ ?_
                                               rotate_left
                                               · rintro w' ⟨s0, s1⟩
                                                 go_simp
                                                 with_reducible rfl
                                               rotate_left
                                               · simp only [Act.put, List.setIfInBounds_toArray, List.set_cons_zero, List.set_cons_succ, i64_w, i32_w]
                                                 rfl
                                               refine pure_ (i := 8) (N := some 125) (v := ?_) (a' := ?_) #[true, true, true, true, true, true, true, true, true, false] rfl rfl (any_of HT_.out (by kernel_rfl)) (fun _ _ _ h => h) (Or.inl ⟨by rfl, ?_⟩) ?_ ?_
                                               rotate_left
                                               · intro w'
                                                 go_simp
                                                 with_reducible rfl
                                               rotate_left
                                               · simp only [Act.put, List.setIfInBounds_toArray, List.set_cons_zero, List.set_cons_succ, i64_w, i32_w]
                                                 rfl
                                               refine pure_ (i := 9) (N := some 126) (v := ?_) (a' := ?_) #[true, true, true, true, true, true, true, true, true, true] rfl rfl (any_of HT_.out (by kernel_rfl)) (fun _ _ _ h => h) (Or.inl ⟨by rfl, ?_⟩) ?_ ?_
                                               rotate_left
                                               · intro w'
                                                 go_simp
                                                 with_reducible rfl
                                               rotate_left
                                               · simp only [Act.put, List.setIfInBounds_toArray, List.set_cons_zero, List.set_cons_succ, i64_w, i32_w]
                                                 rfl
                                               refine done_ (done_of HT_.out (by kernel_rfl)) ?_
                                               have p54 : 0 ≤ (x10_3 : Int) := of_decide_eq_true (by assumption)
                                               have q54 : (x10_3 : Int) < ((x7_4.length : Int) : Int) := of_decide_eq_true (by assumption)
                                               obtain ⟨hx54_0, hf54_0⟩ := Kd.R_celln 0 HO_7.out (x10_3 : Int) p54 q54
                                               replace p54 := eq_true p54
                                               replace q54 := eq_true q54
                                               obtain ⟨hy57_, hz57_⟩ := Kd.R_celln 0 HO_7.out (x10_3 : Int) (of_decide_eq_true (by assumption)) (of_decide_eq_true (by assumption))
                                               have HP57 := Kd.R_putg HO_7.out (x10_3 : Int) 0
                                               try go_wp2_with (first | ((with_reducible refine gate_store (t := 3) (p := 129) rfl ?_); refine store_event (t := 3) (p := 129) (v := ?vo_w58) (w1 := (w56.setCell ⟨go21, (x10_3 : Int).toNat, none⟩ (.int .i64 0))) ?hg ?ho ?hn ?hr ?_; (case ho => rfl); (case hg => rfl); (case hn => rfl); (case hr => first | (go_simp; done) | (go_simp; rfl)); intro w58 hw; have hg : w56.grownBy w58 (some go21) := (by rw [hw]; exact HP57.2); have hp_ : Kd.R (Kd.int .i64) 3 w58 w.heap.size (fun k_ => some k_ ≠ (u5 : Value).ownBlock ∧ some k_ ≠ (.slice (some ad118) x6_4.length co23 : Value).ownBlock) (.slice (some ⟨go21, 0, none⟩) x7_4.length co24) y143 := (by rw [hw, Ny143.out]; exact HP57.1); clear HP57; have n0_ := Aside0.mk (Kd.R_after (v := (.slice (some ⟨go21, 0, none⟩) x7_4.length co24)) (v1 := (.slice (some ⟨go21, 0, none⟩) x7_4.length co24)) (ok := (fun k_ => some k_ ≠ (.slice (some ad118) x6_4.length co23 : Value).ownBlock)) (by (with_reducible repeat (first | apply Kd.R_alloc | apply Kd.R_drewN | apply Kd.R_drew)); exact HO_5.out) hg (.inl rfl)); have n1_ := Aside0.mk (Kd.R_after (v := (.slice (some ⟨go21, 0, none⟩) x7_4.length co24)) (v1 := (.slice (some ⟨go21, 0, none⟩) x7_4.length co24)) (ok := (fun k_ => some k_ ≠ (u5 : Value).ownBlock)) (by (with_reducible repeat (first | apply Kd.R_alloc | apply Kd.R_drewN | apply Kd.R_drew)); exact HO_6.out) hg (.inl rfl)); have n2_ := Aside0.mk (hp_); have n3_ := Aside0.mk ((by rw [hw]; exact below_set (HB.out) GB21.out : Below w.heap.size w w58)); clear HO_5; clear HO_6; clear HO_7; clear HB; have HO_5 := n0_; have HO_6 := n1_; have HO_7 := n2_; have HB := n3_; clear n0_ n1_ n2_ n3_; clear hg hw hp_))
                                               (try simp only [← hl6_4, ← hl7_4])
                                               go_roundg k4
                                               case measure => have := HK1.out; have := HK2.out; have := HK3.out; have := HK4.out; omega
                                               case rel => exact ⟨(x5_4), (x6_4), (y143), (x8_4), (wrap64 (x10_3 + 1)), (by first | rfl | (simp; done) | (simp [*]; done)), (by first | rfl | (simp; done) | (simp [*]; done)), H', ⟨by have := HK1.out; have := HK2.out; have := HK3.out; have := HK4.out; omega⟩, ⟨by (try simp only [hl6_4]); (try simp only [hl7_4]); (with_reducible repeat (first | apply Kd.R_alloc | apply Kd.R_drewN | apply Kd.R_drew)); exact HO_5.out⟩, ⟨by (try simp only [hl6_4]); (try simp only [hl7_4]); (with_reducible repeat (first | apply Kd.R_alloc | apply Kd.R_drewN | apply Kd.R_drew)); exact HO_6.out⟩, ⟨by (try simp only [hl6_4]); (try simp only [hl7_4]); (with_reducible repeat (first | apply Kd.R_alloc | apply Kd.R_drewN | apply Kd.R_drew)); exact HO_7.out⟩, ⟨by repeat (first | (with_reducible first | exact HB.out | apply below_alloc | apply pw_below_drewN | apply below_drew1) | exact HB.out)⟩⟩
                                             · rw [if_neg c53] at H
                                               exact absurd H (by simp)
                                           · rw [if_neg c52] at H
                                             have c52b0 : ((rd x6_4 x10_3) == ((rd_L1 l1 x10_3).length : Int)) = false := beq_eq_false_iff_ne.mpr c52
                                             have c52b1 : ((rd x6_4 x10_3) != ((rd_L1 l1 x10_3).length : Int)) = true := bne_iff_ne.mpr c52
                                             have H' := Aside0.mk H
                                             clear H
                                             try go_wp2
                                             have n0_ := Aside0.mk (Kd.R_drew HO_5.out)
                                             have n1_ := Aside0.mk (Kd.R_drew HO_6.out)
                                             have n2_ := Aside0.mk (Kd.R_drew HO_7.out)
                                             have n3_ := Aside0.mk (below_drew1 HB.out)
                                             clear HO_5
                                             clear HO_6
                                             clear HO_7
                                             clear HB
                                             have HO_5 := n0_
                                             have HO_6 := n1_
                                             have HO_7 := n2_
                                             have HB := n3_
                                             clear n0_ n1_ n2_ n3_
                                             have p122 : 0 ≤ (x10_3 : Int) := of_decide_eq_true (by assumption)
                                             have q122 : x10_3 < (x6_4.length : Int) := of_decide_eq_true (by assumption)
                                             obtain ⟨ad122, e122, hx122_0⟩ := Kd.at_int (Kd.R_reads' HO_6.out).2.2 x10_3 p122 q122
                                             obtain rfl : ad118 = ad122 := (by injection e122)
                                             replace p122 := eq_true p122
                                             replace q122 := eq_true q122
                                             have p123 : 0 ≤ (x10_3 : Int) := of_decide_eq_true (by assumption)
                                             have q123 : x10_3 < (l1.length : Int) := of_decide_eq_true (by assumption)
                                             obtain ⟨ad123, A123_0, c123_0, e123, hx123_0, hl123_0, hi123_0⟩ := at_L1 HR1.out x10_3 p123 q123
                                             have hw123_0 := hx123_0
                                             obtain rfl : ad119 = ad123 := (by injection e123)
                                             replace hx123_0 := (HB.out.cell (World.block_lt_of_cell? w _ hx123_0)).trans hx123_0
                                             have HR123_0 := Aside0.mk hi123_0
                                             have HC123_0 := Aside0.mk hl123_0
                                             clear hi123_0 hl123_0
                                             replace p123 := eq_true p123
                                             replace q123 := eq_true q123
                                             refine start_ (n := 27) (S := fun w' => w'.cell? (ad118.add (x10_3).toNat) = some (.int .i64 (rd x6_4 x10_3)) ∧ w'.cell? (ad119.add (x10_3).toNat) = some (.slice A123_0 (rd_L1 l1 x10_3).length c123_0)) (ds := []) #[false, false, false, false, false, false, false, false, false, false, false, false, false, false, false, false, false, false, false, false, false, false, false, false, false, false, false] (by kernel_rfl) rfl rfl ⟨hx122_0, ((HB.out.cell (World.block_lt_of_cell? w _ hw123_0)).trans hw123_0)⟩ (fun hHeld => ?_); refine with_tabW spec_serve.tab15 spec_serve.bits15 (fun HT_ HW_ => ?_)
                                             generalize wr.drew = w59 at HO_5 HO_6 HO_7 HB HR123_0 hx122_0 hx123_0 hHeld ⊢
                                             refine pure_ (i := 0) (N := some 58) (v := ?_) (a' := ?_) #[true, false, false, false, false, false, false, false, false, false, false, false, false, false, false, false, false, false, false, false, false, false, false, false, false, false, false] rfl rfl (any_of HT_.out (by kernel_rfl)) (fun _ _ _ h => h) (Or.inl ⟨by rfl, ?_⟩) ?_ ?_
                                             rotate_left
                                             · intro w'
                                               go_simp
                                               with_reducible rfl
                                             rotate_left
                                             · simp only [Act.put, List.setIfInBounds_toArray, List.set_cons_zero, List.set_cons_succ, i64_w, i32_w]
                                               rfl
                                             refine pure_ (i := 1) (N := some 59) (v := ?_) (a' := ?_) #[true, true, false, false, false, false, false, false, false, false, false, false, false, false, false, false, false, false, false, false, false, false, false, false, false, false, false] rfl rfl (any_of HT_.out (by kernel_rfl)) (fun _ _ _ h => h) (Or.inl ⟨by rfl, ?_⟩) ?_ ?_
                                             rotate_left
                                             · intro w'
                                               go_simp
                                               with_reducible rfl
                                             rotate_left
                                             · simp only [Act.put, List.setIfInBounds_toArray, List.set_cons_zero, List.set_cons_succ, i64_w, i32_w]
                                               rfl
                                             refine pure_ (i := 2) (N := some 60) (v := ?_) (a' := ?_) #[true, true, true, false, false, false, false, false, false, false, false, false, false, false, false, false, false, false, false, false, false, false, false, false, false, false, false] rfl rfl (any_of HT_.out (by kernel_rfl)) (fun _ _ _ h => h) (Or.inl ⟨by rfl, ?_⟩) ?_ ?_
                                             rotate_left
                                             · intro w'
                                               go_simp
                                               with_reducible rfl
                                             rotate_left
                                             · simp only [Act.put, List.setIfInBounds_toArray, List.set_cons_zero, List.set_cons_succ, i64_w, i32_w]
                                               rfl
                                             refine pure_ (i := 4) (N := some 62) (v := ?_) (a' := ?_) #[true, true, true, false, true, false, false, false, false, false, false, false, false, false, false, false, false, false, false, false, false, false, false, false, false, false, false] rfl rfl (any_of HT_.out (by kernel_rfl)) (fun _ _ _ h => h) (Or.inl ⟨by rfl, ?_⟩) ?_ ?_
                                             rotate_left
                                             · intro w'
                                               go_simp
                                               with_reducible rfl
                                             rotate_left
                                             · simp only [Act.put, List.setIfInBounds_toArray, List.set_cons_zero, List.set_cons_succ, i64_w, i32_w]
                                               rfl
                                             refine pure_ (i := 5) (N := some 63) (v := ?_) (a' := ?_) #[true, true, true, false, true, true, false, false, false, false, false, false, false, false, false, false, false, false, false, false, false, false, false, false, false, false, false] rfl rfl (any_of HT_.out (by kernel_rfl)) (fun _ _ _ h => h) (Or.inl ⟨by rfl, ?_⟩) ?_ ?_
                                             rotate_left
                                             · intro w'
                                               go_simp
                                               with_reducible rfl
                                             rotate_left
                                             · simp only [Act.put, List.setIfInBounds_toArray, List.set_cons_zero, List.set_cons_succ, i64_w, i32_w]
                                               rfl
                                             refine pure_ (i := 6) (N := some 64) (v := ?_) (a' := ?_) #[true, true, true, false, true, true, true, false, false, false, false, false, false, false, false, false, false, false, false, false, false, false, false, false, false, false, false] rfl rfl (any_of HT_.out (by kernel_rfl)) (fun _ _ _ h => h) (Or.inl ⟨by rfl, ?_⟩) ?_ ?_
                                             rotate_left
                                             · intro w'
                                               go_simp
                                               with_reducible rfl
                                             rotate_left
                                             · simp only [Act.put, List.setIfInBounds_toArray, List.set_cons_zero, List.set_cons_succ, i64_w, i32_w]
                                               rfl
                                             refine take_ (i := 3) (N := some 61) (v := ?_) (a' := ?_) #[true, true, true, true, true, true, true, false, false, false, false, false, false, false, false, false, false, false, false, false, false, false, false, false, false, false, false] rfl rfl (take_ofW HT_.out HW_.out (by kernel_rfl)) (fun _ _ _ h => h) (Or.inl ⟨by rfl, ?_⟩) hHeld ?_ ?_
                                             rotate_left
                                             · rintro w' ⟨s0, s1⟩
                                               go_simp
                                               with_reducible rfl
                                             rotate_left
                                             · simp only [Act.put, List.setIfInBounds_toArray, List.set_cons_zero, List.set_cons_succ, i64_w, i32_w]
                                               rfl
                                             refine take_ (i := 7) (N := some 65) (v := ?_) (a' := ?_) #[true, true, true, true, true, true, true, true, false, false, false, false, false, false, false, false, false, false, false, false, false, false, false, false, false, false, false] rfl rfl (take_ofW HT_.out HW_.out (by kernel_rfl)) (fun _ _ _ h => h) (Or.inl ⟨by rfl, ?_⟩) hHeld ?_ ?_
                                             rotate_left
                                             · rintro w' ⟨s0, s1⟩
                                               go_simp
                                               with_reducible rfl
                                             rotate_left
                                             · simp only [Act.put, List.setIfInBounds_toArray, List.set_cons_zero, List.set_cons_succ, i64_w, i32_w]
                                               rfl
                                             refine pure_ (i := 8) (N := some 66) (v := ?_) (a' := ?_) #[true, true, true, true, true, true, true, true, true, false, false, false, false, false, false, false, false, false, false, false, false, false, false, false, false, false, false] rfl rfl (any_of HT_.out (by kernel_rfl)) (fun _ _ _ h => h) (Or.inl ⟨by rfl, ?_⟩) ?_ ?_
                                             rotate_left
                                             · intro w'
                                               go_simp
                                               with_reducible rfl
                                             rotate_left
                                             · simp only [Act.put, List.setIfInBounds_toArray, List.set_cons_zero, List.set_cons_succ, i64_w, i32_w]
                                               rfl
                                             refine pure_ (i := 9) (N := some 67) (v := ?_) (a' := ?_) #[true, true, true, true, true, true, true, true, true, true, false, false, false, false, false, false, false, false, false, false, false, false, false, false, false, false, false] rfl rfl (any_of HT_.out (by kernel_rfl)) (fun _ _ _ h => h) (Or.inl ⟨by rfl, ?_⟩) ?_ ?_
                                             rotate_left
                                             · intro w'
                                               go_simp
                                               with_reducible rfl
                                             rotate_left
                                             · simp only [Act.put, List.setIfInBounds_toArray, List.set_cons_zero, List.set_cons_succ, i64_w, i32_w]
                                               rfl
                                             refine pure_ (i := 10) (N := some 68) (v := ?_) (a' := ?_) #[true, true, true, true, true, true, true, true, true, true, true, false, false, false, false, false, false, false, false, false, false, false, false, false, false, false, false] rfl rfl (any_of HT_.out (by kernel_rfl)) (fun _ _ _ h => h) (Or.inl ⟨by rfl, ?_⟩) ?_ ?_
                                             rotate_left
                                             · intro w'
                                               go_simp
                                               with_reducible rfl
                                             rotate_left
                                             · simp only [Act.put, List.setIfInBounds_toArray, List.set_cons_zero, List.set_cons_succ, i64_w, i32_w]
                                               rfl
                                             refine pure_ (i := 11) (N := some 69) (v := undef) (a' := ?_) #[true, true, true, true, true, true, true, true, true, true, true, true, false, false, false, false, false, false, false, false, false, false, false, false, false, false, false] rfl rfl (any_of HT_.out (by kernel_rfl)) (fun _ _ _ h => h) (Or.inr ⟨by rfl, rfl⟩) ?_ ?_
                                             rotate_left
                                             · simp only [Act.put, List.setIfInBounds_toArray, List.set_cons_zero, List.set_cons_succ, i64_w, i32_w]
                                               rfl
                                             refine pure_ (i := 12) (N := some 70) (v := undef) (a' := ?_) #[true, true, true, true, true, true, true, true, true, true, true, true, true, false, false, false, false, false, false, false, false, false, false, false, false, false, false] rfl rfl (any_of HT_.out (by kernel_rfl)) (fun _ _ _ h => h) (Or.inr ⟨by rfl, rfl⟩) ?_ ?_
                                             rotate_left
                                             · simp only [Act.put, List.setIfInBounds_toArray, List.set_cons_zero, List.set_cons_succ, i64_w, i32_w]
                                               rfl
                                             refine pure_ (i := 13) (N := some 71) (v := undef) (a' := ?_) #[true, true, true, true, true, true, true, true, true, true, true, true, true, true, false, false, false, false, false, false, false, false, false, false, false, false, false] rfl rfl (any_of HT_.out (by kernel_rfl)) (fun _ _ _ h => h) (Or.inr ⟨by rfl, rfl⟩) ?_ ?_
                                             rotate_left
                                             · simp only [Act.put, List.setIfInBounds_toArray, List.set_cons_zero, List.set_cons_succ, i64_w, i32_w]
                                               rfl
                                             refine pure_ (i := 14) (N := some 72) (v := undef) (a' := ?_) #[true, true, true, true, true, true, true, true, true, true, true, true, true, true, true, false, false, false, false, false, false, false, false, false, false, false, false] rfl rfl (any_of HT_.out (by kernel_rfl)) (fun _ _ _ h => h) (Or.inr ⟨by rfl, rfl⟩) ?_ ?_
                                             rotate_left
                                             · simp only [Act.put, List.setIfInBounds_toArray, List.set_cons_zero, List.set_cons_succ, i64_w, i32_w]
                                               rfl
                                             refine pure_ (i := 15) (N := some 73) (v := undef) (a' := ?_) #[true, true, true, true, true, true, true, true, true, true, true, true, true, true, true, true, false, false, false, false, false, false, false, false, false, false, false] rfl rfl (any_of HT_.out (by kernel_rfl)) (fun _ _ _ h => h) (Or.inr ⟨by rfl, rfl⟩) ?_ ?_
                                             rotate_left
                                             · simp only [Act.put, List.setIfInBounds_toArray, List.set_cons_zero, List.set_cons_succ, i64_w, i32_w]
                                               rfl
                                             refine pure_ (i := 16) (N := some 74) (v := undef) (a' := ?_) #[true, true, true, true, true, true, true, true, true, true, true, true, true, true, true, true, true, false, false, false, false, false, false, false, false, false, false] rfl rfl (any_of HT_.out (by kernel_rfl)) (fun _ _ _ h => h) (Or.inr ⟨by rfl, rfl⟩) ?_ ?_
                                             rotate_left
                                             · simp only [Act.put, List.setIfInBounds_toArray, List.set_cons_zero, List.set_cons_succ, i64_w, i32_w]
                                               rfl
                                             refine pure_ (i := 17) (N := some 75) (v := undef) (a' := ?_) #[true, true, true, true, true, true, true, true, true, true, true, true, true, true, true, true, true, true, false, false, false, false, false, false, false, false, false] rfl rfl (any_of HT_.out (by kernel_rfl)) (fun _ _ _ h => h) (Or.inr ⟨by rfl, rfl⟩) ?_ ?_
                                             rotate_left
                                             · simp only [Act.put, List.setIfInBounds_toArray, List.set_cons_zero, List.set_cons_succ, i64_w, i32_w]
                                               rfl
                                             refine pure_ (i := 18) (N := some 76) (v := undef) (a' := ?_) #[true, true, true, true, true, true, true, true, true, true, true, true, true, true, true, true, true, true, true, false, false, false, false, false, false, false, false] rfl rfl (any_of HT_.out (by kernel_rfl)) (fun _ _ _ h => h) (Or.inr ⟨by rfl, rfl⟩) ?_ ?_
                                             rotate_left
                                             · simp only [Act.put, List.setIfInBounds_toArray, List.set_cons_zero, List.set_cons_succ, i64_w, i32_w]
                                               rfl
                                             refine pure_ (i := 19) (N := some 77) (v := undef) (a' := ?_) #[true, true, true, true, true, true, true, true, true, true, true, true, true, true, true, true, true, true, true, true, false, false, false, false, false, false, false] rfl rfl (any_of HT_.out (by kernel_rfl)) (fun _ _ _ h => h) (Or.inr ⟨by rfl, rfl⟩) ?_ ?_
                                             rotate_left
                                             · simp only [Act.put, List.setIfInBounds_toArray, List.set_cons_zero, List.set_cons_succ, i64_w, i32_w]
                                               rfl
                                             refine pure_ (i := 20) (N := some 78) (v := undef) (a' := ?_) #[true, true, true, true, true, true, true, true, true, true, true, true, true, true, true, true, true, true, true, true, true, false, false, false, false, false, false] rfl rfl (any_of HT_.out (by kernel_rfl)) (fun _ _ _ h => h) (Or.inr ⟨by rfl, rfl⟩) ?_ ?_
                                             rotate_left
                                             · simp only [Act.put, List.setIfInBounds_toArray, List.set_cons_zero, List.set_cons_succ, i64_w, i32_w]
                                               rfl
                                             refine pure_ (i := 21) (N := some 79) (v := undef) (a' := ?_) #[true, true, true, true, true, true, true, true, true, true, true, true, true, true, true, true, true, true, true, true, true, true, false, false, false, false, false] rfl rfl (any_of HT_.out (by kernel_rfl)) (fun _ _ _ h => h) (Or.inr ⟨by rfl, rfl⟩) ?_ ?_
                                             rotate_left
                                             · simp only [Act.put, List.setIfInBounds_toArray, List.set_cons_zero, List.set_cons_succ, i64_w, i32_w]
                                               rfl
                                             refine pure_ (i := 22) (N := some 80) (v := undef) (a' := ?_) #[true, true, true, true, true, true, true, true, true, true, true, true, true, true, true, true, true, true, true, true, true, true, true, false, false, false, false] rfl rfl (any_of HT_.out (by kernel_rfl)) (fun _ _ _ h => h) (Or.inr ⟨by rfl, rfl⟩) ?_ ?_
                                             rotate_left
                                             · simp only [Act.put, List.setIfInBounds_toArray, List.set_cons_zero, List.set_cons_succ, i64_w, i32_w]
                                               rfl
                                             refine pure_ (i := 23) (N := some 81) (v := undef) (a' := ?_) #[true, true, true, true, true, true, true, true, true, true, true, true, true, true, true, true, true, true, true, true, true, true, true, true, false, false, false] rfl rfl (any_of HT_.out (by kernel_rfl)) (fun _ _ _ h => h) (Or.inr ⟨by rfl, rfl⟩) ?_ ?_
                                             rotate_left
                                             · simp only [Act.put, List.setIfInBounds_toArray, List.set_cons_zero, List.set_cons_succ, i64_w, i32_w]
                                               rfl
                                             refine pure_ (i := 24) (N := some 82) (v := undef) (a' := ?_) #[true, true, true, true, true, true, true, true, true, true, true, true, true, true, true, true, true, true, true, true, true, true, true, true, true, false, false] rfl rfl (any_of HT_.out (by kernel_rfl)) (fun _ _ _ h => h) (Or.inr ⟨by rfl, rfl⟩) ?_ ?_
                                             rotate_left
                                             · simp only [Act.put, List.setIfInBounds_toArray, List.set_cons_zero, List.set_cons_succ, i64_w, i32_w]
                                               rfl
                                             refine pure_ (i := 25) (N := some 83) (v := undef) (a' := ?_) #[true, true, true, true, true, true, true, true, true, true, true, true, true, true, true, true, true, true, true, true, true, true, true, true, true, true, false] rfl rfl (any_of HT_.out (by kernel_rfl)) (fun _ _ _ h => h) (Or.inr ⟨by rfl, rfl⟩) ?_ ?_
                                             rotate_left
                                             · simp only [Act.put, List.setIfInBounds_toArray, List.set_cons_zero, List.set_cons_succ, i64_w, i32_w]
                                               rfl
                                             refine pure_ (i := 26) (N := some 84) (v := ?_) (a' := ?_) #[true, true, true, true, true, true, true, true, true, true, true, true, true, true, true, true, true, true, true, true, true, true, true, true, true, true, true] rfl rfl (any_of HT_.out (by kernel_rfl)) (fun _ _ _ h => h) (Or.inl ⟨by rfl, ?_⟩) ?_ ?_
                                             rotate_left
                                             · intro w'
                                               go_simp
                                               with_reducible rfl
                                             rotate_left
                                             · simp only [Act.put, List.setIfInBounds_toArray, List.set_cons_zero, List.set_cons_succ, i64_w, i32_w]
                                               rfl
                                             refine done_ (done_of HT_.out (by kernel_rfl)) ?_
                                             try go_wp2
                                             have n0_ := Aside0.mk (Kd.R_drew HO_5.out)
                                             have n1_ := Aside0.mk (Kd.R_drew HO_6.out)
                                             have n2_ := Aside0.mk (Kd.R_drew HO_7.out)
                                             have n3_ := Aside0.mk (below_drew1 HB.out)
                                             clear HO_5
                                             clear HO_6
                                             clear HO_7
                                             clear HB
                                             have HO_5 := n0_
                                             have HO_6 := n1_
                                             have HO_7 := n2_
                                             have HB := n3_
                                             clear n0_ n1_ n2_ n3_
                                             have p141 : 0 ≤ (x10_3 : Int) := of_decide_eq_true (by assumption)
                                             have q141 : x10_3 < (x6_4.length : Int) := of_decide_eq_true (by assumption)
                                             obtain ⟨ad141, e141, hx141_0⟩ := Kd.at_int (Kd.R_reads' HO_6.out).2.2 x10_3 p141 q141
                                             obtain rfl : ad118 = ad141 := (by injection e141)
                                             replace p141 := eq_true p141
                                             replace q141 := eq_true q141
                                             have p142 : 0 ≤ (x10_3 : Int) := of_decide_eq_true (by assumption)
                                             have q142 : x10_3 < (l1.length : Int) := of_decide_eq_true (by assumption)
                                             obtain ⟨ad142, A142_0, c142_0, e142, hx142_0, hl142_0, hi142_0⟩ := at_L1 HR1.out x10_3 p142 q142
                                             have hw142_0 := hx142_0
                                             obtain rfl : ad119 = ad142 := (by injection e142)
                                             replace hx142_0 := (HB.out.cell (World.block_lt_of_cell? w _ hx142_0)).trans hx142_0
                                             have HR142_0 := Aside0.mk hi142_0
                                             have HC142_0 := Aside0.mk hl142_0
                                             clear hi142_0 hl142_0
                                             replace p142 := eq_true p142
                                             replace q142 := eq_true q142
                                             refine start_ (n := 10) (S := fun w' => w'.cell? (ad118.add (x10_3).toNat) = some (.int .i64 (rd x6_4 x10_3)) ∧ w'.cell? (ad119.add (x10_3).toNat) = some (.slice A142_0 (rd_L1 l1 x10_3).length c142_0)) (ds := []) #[false, false, false, false, false, false, false, false, false, false] (by kernel_rfl) rfl rfl ⟨hx141_0, ((HB.out.cell (World.block_lt_of_cell? w _ hw142_0)).trans hw142_0)⟩ (fun hHeld => ?_); refine with_tabW spec_serve.tab20 spec_serve.bits20 (fun HT_ HW_ => ?_)
                                             generalize w59.drew = w60 at HO_5 HO_6 HO_7 HB HR142_0 hx141_0 hx142_0 hHeld ⊢
                                             refine pure_ (i := 0) (N := some 117) (v := ?_) (a' := ?_) #[true, false, false, false, false, false, false, false, false, false] rfl rfl (any_of HT_.out (by kernel_rfl)) (fun _ _ _ h => h) (Or.inl ⟨by rfl, ?_⟩) ?_ ?_
                                             rotate_left
                                             · intro w'
                                               go_simp
                                               with_reducible rfl
                                             rotate_left
                                             · simp only [Act.put, List.setIfInBounds_toArray, List.set_cons_zero, List.set_cons_succ, i64_w, i32_w]
                                               rfl
                                             refine pure_ (i := 1) (N := some 118) (v := ?_) (a' := ?_) #[true, true, false, false, false, false, false, false, false, false] rfl rfl (any_of HT_.out (by kernel_rfl)) (fun _ _ _ h => h) (Or.inl ⟨by rfl, ?_⟩) ?_ ?_
                                             rotate_left
                                             · intro w'
                                               go_simp
                                               with_reducible rfl
                                             rotate_left
                                             · simp only [Act.put, List.setIfInBounds_toArray, List.set_cons_zero, List.set_cons_succ, i64_w, i32_w]
                                               rfl
                                             refine pure_ (i := 2) (N := some 119) (v := ?_) (a' := ?_) #[true, true, true, false, false, false, false, false, false, false] rfl rfl (any_of HT_.out (by kernel_rfl)) (fun _ _ _ h => h) (Or.inl ⟨by rfl, ?_⟩) ?_ ?_
                                             rotate_left
                                             · intro w'
                                               go_simp
                                               with_reducible rfl
                                             rotate_left
                                             · simp only [Act.put, List.setIfInBounds_toArray, List.set_cons_zero, List.set_cons_succ, i64_w, i32_w]
                                               rfl
                                             refine pure_ (i := 4) (N := some 121) (v := ?_) (a' := ?_) #[true, true, true, false, true, false, false, false, false, false] rfl rfl (any_of HT_.out (by kernel_rfl)) (fun _ _ _ h => h) (Or.inl ⟨by rfl, ?_⟩) ?_ ?_
                                             rotate_left
                                             · intro w'
                                               go_simp
                                               with_reducible rfl
                                             rotate_left
                                             · simp only [Act.put, List.setIfInBounds_toArray, List.set_cons_zero, List.set_cons_succ, i64_w, i32_w]
                                               rfl
                                             refine pure_ (i := 5) (N := some 122) (v := ?_) (a' := ?_) #[true, true, true, false, true, true, false, false, false, false] rfl rfl (any_of HT_.out (by kernel_rfl)) (fun _ _ _ h => h) (Or.inl ⟨by rfl, ?_⟩) ?_ ?_
                                             rotate_left
                                             · intro w'
                                               go_simp
                                               with_reducible rfl
                                             rotate_left
                                             · simp only [Act.put, List.setIfInBounds_toArray, List.set_cons_zero, List.set_cons_succ, i64_w, i32_w]
                                               rfl
                                             refine pure_ (i := 6) (N := some 123) (v := ?_) (a' := ?_) #[true, true, true, false, true, true, true, false, false, false] rfl rfl (any_of HT_.out (by kernel_rfl)) (fun _ _ _ h => h) (Or.inl ⟨by rfl, ?_⟩) ?_ ?_
                                             rotate_left
                                             · intro w'
                                               go_simp
                                               with_reducible rfl
                                             rotate_left
                                             · simp only [Act.put, List.setIfInBounds_toArray, List.set_cons_zero, List.set_cons_succ, i64_w, i32_w]
                                               rfl
                                             refine take_ (i := 3) (N := some 120) (v := ?_) (a' := ?_) #[true, true, true, true, true, true, true, false, false, false] rfl rfl (take_ofW HT_.out HW_.out (by kernel_rfl)) (fun _ _ _ h => h) (Or.inl ⟨by rfl, ?_⟩) hHeld ?_ ?_
                                             rotate_left
                                             · rintro w' ⟨s0, s1⟩
                                               go_simp
                                               with_reducible rfl
                                             rotate_left
                                             · simp only [Act.put, List.setIfInBounds_toArray, List.set_cons_zero, List.set_cons_succ, i64_w, i32_w]
                                               rfl
                                             refine take_ (i := 7) (N := some 124) (v := ?_) (a' := ?_) #[true, true, true, true, true, true, true, true, false, false] rfl rfl (take_ofW HT_.out HW_.out (by kernel_rfl)) (fun _ _ _ h => h) (Or.inl ⟨by rfl, ?_⟩) hHeld ?_ ?_
                                             rotate_left
                                             · rintro w' ⟨s0, s1⟩
                                               go_simp
                                               with_reducible rfl
                                             rotate_left
                                             · simp only [Act.put, List.setIfInBounds_toArray, List.set_cons_zero, List.set_cons_succ, i64_w, i32_w]
                                               rfl
                                             refine pure_ (i := 8) (N := some 125) (v := ?_) (a' := ?_) #[true, true, true, true, true, true, true, true, true, false] rfl rfl (any_of HT_.out (by kernel_rfl)) (fun _ _ _ h => h) (Or.inl ⟨by rfl, ?_⟩) ?_ ?_
                                             rotate_left
                                             · intro w'
                                               go_simp
                                               with_reducible rfl
                                             rotate_left
                                             · simp only [Act.put, List.setIfInBounds_toArray, List.set_cons_zero, List.set_cons_succ, i64_w, i32_w]
                                               rfl
                                             refine pure_ (i := 9) (N := some 126) (v := ?_) (a' := ?_) #[true, true, true, true, true, true, true, true, true, true] rfl rfl (any_of HT_.out (by kernel_rfl)) (fun _ _ _ h => h) (Or.inl ⟨by rfl, ?_⟩) ?_ ?_
                                             rotate_left
                                             · intro w'
                                               go_simp
                                               with_reducible rfl
                                             rotate_left
                                             · simp only [Act.put, List.setIfInBounds_toArray, List.set_cons_zero, List.set_cons_succ, i64_w, i32_w]
                                               rfl
                                             refine done_ (done_of HT_.out (by kernel_rfl)) ?_
                                             try go_wp2
                                             (try simp only [← hl6_4, ← hl7_4])
                                             go_roundg k4
                                             case measure => have := HK1.out; have := HK2.out; have := HK3.out; have := HK4.out; omega
                                             case rel => exact ⟨(x5_4), (x6_4), (x7_4), (x8_4), (wrap64 (x10_3 + 1)), (by first | rfl | (simp; done) | (simp [*]; done)), (by first | rfl | (simp; done) | (simp [*]; done)), H', ⟨by have := HK1.out; have := HK2.out; have := HK3.out; have := HK4.out; omega⟩, ⟨by (try simp only [hl6_4]); (try simp only [hl7_4]); (with_reducible repeat (first | apply Kd.R_alloc | apply Kd.R_drewN | apply Kd.R_drew)); exact HO_5.out⟩, ⟨by (try simp only [hl6_4]); (try simp only [hl7_4]); (with_reducible repeat (first | apply Kd.R_alloc | apply Kd.R_drewN | apply Kd.R_drew)); exact HO_6.out⟩, ⟨by (try simp only [hl6_4]); (try simp only [hl7_4]); (with_reducible repeat (first | apply Kd.R_alloc | apply Kd.R_drewN | apply Kd.R_drew)); exact HO_7.out⟩, ⟨by repeat (first | (with_reducible first | exact HB.out | apply below_alloc | apply pw_below_drewN | apply below_drew1) | exact HB.out)⟩⟩
                                       · rw [if_neg c29] at H
                                         exact absurd H (by simp)
                                     · rw [if_neg c28] at H
                                       exact absurd H (by simp)
                                   · rw [if_neg c27] at H
                                     exact absurd H (by simp)
                             · rw [if_neg c20] at H
                               exact absurd H (by simp)
                         · rw [if_neg c16] at H
                           exact absurd H (by simp)
                       · rw [if_neg c15] at H
                         exact absurd H (by simp)
                     · rw [if_neg c14] at H
                       have c14b0 : decide (x10_3 < (l1.length : Int)) = false := decide_eq_false c14
                       clear c14
                       have H' := Aside0.mk H
                       clear H
                       go_wp2
                       go_roundg k3
                       case measure => have := HK1.out; have := HK2.out; have := HK3.out; omega
                       case rel => exact ⟨(x5_3), (x6_3), (x7_3), (x8_3), (by first | rfl | (simp; done) | (simp [*]; done)), H', ⟨by have := HK1.out; have := HK2.out; have := HK3.out; omega⟩, ⟨by (with_reducible repeat (first | apply Kd.R_alloc | apply Kd.R_drewN | apply Kd.R_drew)); exact HO_5.out⟩, ⟨by (with_reducible repeat (first | apply Kd.R_alloc | apply Kd.R_drewN | apply Kd.R_drew)); exact HO_6.out⟩, ⟨by (with_reducible repeat (first | apply Kd.R_alloc | apply Kd.R_drewN | apply Kd.R_drew)); exact HO_7.out⟩, ⟨by repeat (first | (with_reducible first | exact HB.out | apply below_alloc | apply pw_below_drewN | apply below_drew1) | exact HB.out)⟩⟩
               · rw [if_neg c13] at H
                 have c13b0 : decide (0 < x8_2) = false := decide_eq_false c13
                 clear c13
                 obtain rfl := Option.some.inj H
                 go_wp2
                 go_ret
                 exact ⟨_, by first | rfl | (simp [errW_none, errW_some] <;> rfl) | (simp [*, errW_none, errW_some] <;> rfl), by (with_reducible repeat (first | apply Kd.R_alloc | apply Kd.R_drewN | apply Kd.R_drew)); exact Kd.R_mono HO_5.out (fun _ hk => trivial), by repeat (first | (with_reducible first | exact HB.out | apply below_alloc | apply pw_below_drewN | apply below_drew1) | exact HB.out)⟩
   · rw [if_neg c4] at H
     exact absurd H (by simp)
 · rw [if_neg c3] at H
   exact absurd H (by simp)

end Go.Proofs.Ytdppkdcfocaemaa.HFnExactTurnsOf
