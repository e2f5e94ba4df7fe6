-- Written by wip/hp.py, a program of this session.
import Derived.Test.YtfklnhjipahonaaHFnSumBytesx0
import Derived.Test.YtfklnhjipahonaaHFnSumBytesx1
import Derived.Test.YtfklnhjipahonaaHFnSumBytesx2
namespace Go.Proofs.Ytfklnhjipahonaa.HFnSumBytes
open Go.RowKit Go.Proofs.YtfklnhjipahonaaW.PrintWords Go.Proofs.YtfklnhjipahonaaW.PrintLast Go.Proofs.YtfklnhjipahonaaW.PrintMore
attribute [local go_sem] max2_int min2_int max_two min_two max_three min_three max_four min_four   -- for this text's walks alone
set_option linter.unusedVariables false
set_option linter.unusedSimpArgs false

set_option maxHeartbeats 8000000 in
set_option maxRecDepth 100000 in
theorem laws_FnSumBytes.calls (k : Nat) (A0 : Option Addr) (c0 : Nat) (l0 : List Int) (r : Bool) (w : World) (hr0 : Kd.C (Kd.int .u8) w A0 l0.length l0) (hc0 : l0.length ≤ c0) (h : laws_FnSumBytes.f k l0 = some r) :
   Calls Try.prog 7 #[.slice A0 l0.length c0] w fun e w' => e = .returned (.bool r) ∧ Below w.heap.size w w' := by
 have HR0 := Aside0.mk hr0
 have HC0 := Aside0.mk hc0
 clear hr0 hc0
 have HB := Aside0.mk (Below.refl w.heap.size w)
 have H : (if (l0.length : Int) > 1048576 then (some true) else ((spec_DrawSumBytes.f k l0).bind fun t158 => ((impl_SumBytes.f k t158).bind fun t161 => ((spec_SumBytes.f k t158).bind fun t162 => (if t161 = t162 then (laws_FnSumBytes.j0 k t158 t161 (decide (t161 < 0))) else (laws_FnSumBytes.j0 k t158 t161 true)))))) = some r := h
 clear h
 by_cases c2 : (l0.length : Int) > 1048576
 · rw [if_pos c2] at H
   have c2b0 : decide (1048576 < (l0.length : Int)) = true := decide_eq_true c2
   have c2b1 : decide (1048576 < l0.length) = true := decide_eq_true (by omega)
   clear c2
   obtain rfl := Option.some.inj H
   go_enter Try.func7, Try.ntmps7
   go_wp2
   go_ret
   exact ⟨by first | rfl | (simp [errW_none, errW_some] <;> rfl) | (simp [*, errW_none, errW_some] <;> rfl), by repeat (first | (with_reducible first | exact HB.out | apply below_alloc | apply pw_below_drewN | apply below_drew1) | exact HB.out)⟩
 · rw [if_neg c2] at H
   have c2b0 : decide (1048576 < (l0.length : Int)) = false := decide_eq_false c2
   have c2b1 : decide (1048576 < l0.length) = false := decide_eq_false (by omega)
   clear c2
   replace H := Option.bind_eq_some_iff.mp H
   obtain ⟨t158, A30, H⟩ := H
   replace H : ((impl_SumBytes.f k t158).bind fun t161 => ((spec_SumBytes.f k t158).bind fun t162 => (if t161 = t162 then (laws_FnSumBytes.j0 k t158 t161 (decide (t161 < 0))) else (laws_FnSumBytes.j0 k t158 t161 true)))) = some r := H
   have A3 := Aside0.mk A30
   clear A30
   replace H := Option.bind_eq_some_iff.mp H
   obtain ⟨t161, A40, H⟩ := H
   replace H : ((spec_SumBytes.f k t158).bind fun t162 => (if t161 = t162 then (laws_FnSumBytes.j0 k t158 t161 (decide (t161 < 0))) else (laws_FnSumBytes.j0 k t158 t161 true))) = some r := H
   have A4 := Aside0.mk A40
   clear A40
   have HC5 := Aside0.mk H
   clear H
   go_enter Try.func7, Try.ntmps7
   go_upto_region 5 with (first | ((with_reducible refine gate_callee (f := 24) rfl ?_); refine goesL_ (some 12) rfl rfl Try.func24 (by kernel_rfl) rfl #[.slice A0 l0.length c0] rfl (by (try simp only [List.map_toArray, List.map_cons, List.map_nil]); first | done | rfl | (simp only [List.length_drop, List.length_take]; rfl)) ?_; (with_reducible refine (spec_DrawSumBytes.calls k _ _ l0 t158 _ ?side1 ?side2 A3.out).mono ?_); (case side1 => repeat (first | exact HR0.out | (with_reducible refine Kd.C_alloc ?_ _) | (with_reducible refine Kd.C_drewN ?_ _) | (with_reducible refine Kd.C_drew ?_))); (case side2 => exact HC0.out); rintro e w6 ⟨v159, rfl, ho0, hb⟩; refine ⟨_, rfl, ?_⟩; have n0_ := Aside0.mk (Kd.R_lower ho0 (below_size (by repeat (first | (with_reducible first | exact HB.out | apply below_alloc | apply pw_below_drewN | apply below_drew1) | exact HB.out)))); have n1_ := Aside0.mk (below_step (by repeat (first | (with_reducible first | exact HB.out | apply below_alloc | apply pw_below_drewN | apply below_drew1) | exact HB.out)) hb); clear HB; have HO160 := n0_; have HB := n1_; clear n0_ n1_; (try clear hb); (try clear hb2); (try clear hk); (try clear hi); (try clear ho0); obtain ⟨Ao7, co7, eo7⟩ := Kd.R_slice HO160.out; subst eo7) | ((with_reducible refine gate_callee (f := 18) rfl ?_); refine goesL_ (some 14) rfl rfl Try.func18 (by kernel_rfl) rfl #[.slice Ao7 t158.length co7] rfl (by (try simp only [List.map_toArray, List.map_cons, List.map_nil]); first | done | rfl | (simp only [List.length_drop, List.length_take]; rfl)) ?_; (with_reducible refine (impl_SumBytes.calls k _ _ t158 t161 _ ?side1 ?side2 A4.out).mono ?_); (case side1 => repeat (first | exact (Kd.R_reads' HO160.out).2.2 | (with_reducible refine Kd.C_alloc ?_ _) | (with_reducible refine Kd.C_drewN ?_ _) | (with_reducible refine Kd.C_drew ?_))); (case side2 => exact (Kd.R_reads' HO160.out).2.1); rintro e w' ⟨rfl, ⟨nd, rfl⟩⟩; refine ⟨_, rfl, ?_⟩))
   (try simp only [Act.put, List.setIfInBounds_toArray, List.set_cons_zero, List.set_cons_succ])
   go_cut [22] (fun v22 wc => ∃ (kq : Nat) (x22_4 : Bool), v22 = .bool x22_4 ∧ Aside0 (laws_FnSumBytes.j0 kq t158 t161 x22_4 = some r) ∧ Aside0 (kq ≤ k) ∧ Aside0 (Kd.R (Kd.int .i64) 3 wc w.heap.size (fun _ => True) (.slice Ao7 t158.length co7) t158) ∧ Aside0 (Below w.heap.size w wc))
   case first =>
     have H := HC5.out
     clear HC5
     replace H := Option.bind_eq_some_iff.mp H
     obtain ⟨t162, A80, H⟩ := H
     replace H : (if t161 = t162 then (laws_FnSumBytes.j0 k t158 t161 (decide (t161 < 0))) else (laws_FnSumBytes.j0 k t158 t161 true)) = some r := H
     have A8 := Aside0.mk A80
     clear A80
     by_cases c9 : t161 = t162
     · rw [if_pos c9] at H
       have c9b0 : (t161 == t162) = true := beq_iff_eq.mpr c9
       have c9b1 : (t161 != t162) = false := bne_eq_false_iff_eq.mpr c9
       clear c9
       (first | rw [c9b0] | (simp only [i64_w, i32_w]; rw [c9b0]) | skip)
       have H' := Aside0.mk H
       clear H
       go_wp2_with (first | ((with_reducible refine gate_callee (f := 17) rfl ?_); refine goesL_ (some 17) rfl rfl Try.func17 (by kernel_rfl) rfl #[.slice Ao7 t158.length co7] rfl (by (try simp only [List.map_toArray, List.map_cons, List.map_nil]); first | done | rfl | (simp only [List.length_drop, List.length_take]; rfl)) ?_; (with_reducible refine (spec_SumBytes.calls k _ _ t158 t162 _ ?side1 ?side2 A8.out).mono ?_); (case side1 => repeat (first | exact (Kd.R_reads' HO160.out).2.2 | (with_reducible refine Kd.C_alloc ?_ _) | (with_reducible refine Kd.C_drewN ?_ _) | (with_reducible refine Kd.C_drew ?_))); (case side2 => exact (Kd.R_reads' HO160.out).2.1); rintro e w' ⟨rfl, ⟨nd, rfl⟩⟩; refine ⟨_, rfl, ?_⟩))
       go_meet
       case rel => exact ⟨_, (decide (t161 < 0)), (by first | rfl | (simp; done) | (simp [*]; done)), H', ⟨by first | omega | exact Nat.le_refl _⟩, ⟨by (with_reducible repeat (first | apply Kd.R_alloc | apply Kd.R_drewN | apply Kd.R_drew)); exact HO160.out⟩, ⟨by repeat (first | (with_reducible first | exact HB.out | apply below_alloc | apply pw_below_drewN | apply below_drew1) | exact HB.out)⟩⟩
     · rw [if_neg c9] at H
       have c9b0 : (t161 == t162) = false := beq_eq_false_iff_ne.mpr c9
       have c9b1 : (t161 != t162) = true := bne_iff_ne.mpr c9
       (first | rw [c9b0] | (simp only [i64_w, i32_w]; rw [c9b0]) | skip)
       have H' := Aside0.mk H
       clear H
       go_wp2_with (first | ((with_reducible refine gate_callee (f := 17) rfl ?_); refine goesL_ (some 17) rfl rfl Try.func17 (by kernel_rfl) rfl #[.slice Ao7 t158.length co7] rfl (by (try simp only [List.map_toArray, List.map_cons, List.map_nil]); first | done | rfl | (simp only [List.length_drop, List.length_take]; rfl)) ?_; (with_reducible refine (spec_SumBytes.calls k _ _ t158 t162 _ ?side1 ?side2 A8.out).mono ?_); (case side1 => repeat (first | exact (Kd.R_reads' HO160.out).2.2 | (with_reducible refine Kd.C_alloc ?_ _) | (with_reducible refine Kd.C_drewN ?_ _) | (with_reducible refine Kd.C_drew ?_))); (case side2 => exact (Kd.R_reads' HO160.out).2.1); rintro e w' ⟨rfl, ⟨nd, rfl⟩⟩; refine ⟨_, rfl, ?_⟩))
       go_meet
       case rel => exact ⟨_, (true), (by first | rfl | (simp; done) | (simp [*]; done)), H', ⟨by first | omega | exact Nat.le_refl _⟩, ⟨by (with_reducible repeat (first | apply Kd.R_alloc | apply Kd.R_drewN | apply Kd.R_drew)); exact HO160.out⟩, ⟨by repeat (first | (with_reducible first | exact HB.out | apply below_alloc | apply pw_below_drewN | apply below_drew1) | exact HB.out)⟩⟩
   case rest =>
     clear HC5
     try clear c1
     try clear c2
     try clear c2b0
     try clear c2b1
     try clear p2
     try clear c7
     try clear c9
     try clear c9b0
     try clear c9b1
     obtain ⟨kq, x22_4, rfl, HA, HJ4, HO_3, HB⟩ := hcut
     cases kq with
     | zero => exact absurd HA.out (by simp [laws_FnSumBytes.j0])
     | succ kj4 =>
       have H := HA.out
       clear HA
       simp only [laws_FnSumBytes.j0] at H
       by_cases c10 : x22_4 = true
       · subst c10
         have H1 : ((spec_SumBytes.f kj4 t158).bind fun t163 => (some (t161 == t163))) = some r := by rw [if_pos rfl] at H; exact H
         clear H
         have H := H1
         clear H1
         replace H := Option.bind_eq_some_iff.mp H
         obtain ⟨t163, A110, H⟩ := H
         replace H : (some (t161 == t163)) = some r := H
         have A11 := Aside0.mk A110
         clear A110
         obtain rfl := Option.some.inj H
         go_wp2_with (first | ((with_reducible refine gate_callee (f := 17) rfl ?_); refine goesL_ (some 25) rfl rfl Try.func17 (by kernel_rfl) rfl #[.slice Ao7 t158.length co7] rfl (by (try simp only [List.map_toArray, List.map_cons, List.map_nil]); first | done | rfl | (simp only [List.length_drop, List.length_take]; rfl)) ?_; (with_reducible refine (spec_SumBytes.calls kj4 _ _ t158 t163 _ ?side1 ?side2 A11.out).mono ?_); (case side1 => repeat (first | exact (Kd.R_reads' HO_3.out).2.2 | (with_reducible refine Kd.C_alloc ?_ _) | (with_reducible refine Kd.C_drewN ?_ _) | (with_reducible refine Kd.C_drew ?_))); (case side2 => exact (Kd.R_reads' HO_3.out).2.1); rintro e w' ⟨rfl, ⟨nd, rfl⟩⟩; refine ⟨_, rfl, ?_⟩))
         go_ret
         exact ⟨by first | rfl | (simp [errW_none, errW_some] <;> rfl) | (simp [*, errW_none, errW_some] <;> rfl), by repeat (first | (with_reducible first | exact HB.out | apply below_alloc | apply pw_below_drewN | apply below_drew1) | exact HB.out)⟩
       · replace c10 := Bool.eq_false_iff.mpr c10
         subst c10
         have H1 : ((some (([] : List Int) : List Int)).bind fun y164 => (if (t158.length : Int) ≥ 4 then (if 2 ≤ 4 then (if 4 ≤ (t158.length : Int) then ((some ((t158.take 4).drop 2 : List Int)).bind fun y167 => (if y164.length + y167.length < 17592186044416 then ((some (y164 ++ y167 : List Int)).bind fun y171 => (if 2 ≤ (t158.length : Int) then ((some (t158.take 2 : List Int)).bind fun y174 => (if y171.length + y174.length < 17592186044416 then ((some (y171 ++ y174 : List Int)).bind fun y178 => ((some (t158.drop 4 : List Int)).bind fun y181 => (if y178.length + y181.length < 17592186044416 then ((some (y178 ++ y181 : List Int)).bind fun y185 => ((some (([] : List Int) : List Int)).bind fun y188 => (if y188.length + t158.length < 17592186044416 then ((some (y188 ++ t158 : List Int)).bind fun y191 => ((some (([wrap64 (Int.tdiv t161 256), Int.tmod t161 256] : List Int) : List Int)).bind fun y194 => (if y191.length + y194.length < 17592186044416 then (if ((t158.length : Int) % 2) = 1 then (if (t158.length : Int) < 4 then (some (decide (t161 ≤ 65535))) else ((impl_SumBytes.f kj4 y185).bind fun t200 => (if t200 = t161 then (some (decide (t161 ≤ 65535))) else (some false)))) else (if (wrap64 ((t158.length : Int) + 2)) > 16 then (if (t158.length : Int) < 4 then (some (decide (t161 ≤ 65535))) else ((impl_SumBytes.f kj4 y185).bind fun t201 => (if t201 = t161 then (some (decide (t161 ≤ 65535))) else (some false)))) else ((impl_SumBytes.f kj4 (y191 ++ y194)).bind fun t202 => (if t202 = 0 then (if (t158.length : Int) < 4 then (some (decide (t161 ≤ 65535))) else ((impl_SumBytes.f kj4 y185).bind fun t203 => (if t203 = t161 then (some (decide (t161 ≤ 65535))) else (some false)))) else (some false))))) else (none)))) else (none)))) else (none)))) else (none))) else (none))) else (none))) else (none)) else (none)) else ((some (([] : List Int) : List Int)).bind fun y204 => (if y204.length + t158.length < 17592186044416 then ((some (y204 ++ t158 : List Int)).bind fun y207 => ((some (([wrap64 (Int.tdiv t161 256), Int.tmod t161 256] : List Int) : List Int)).bind fun y210 => (if y207.length + y210.length < 17592186044416 then (if ((t158.length : Int) % 2) = 1 then (if (t158.length : Int) < 4 then (some (decide (t161 ≤ 65535))) else ((impl_SumBytes.f kj4 y164).bind fun t216 => (if t216 = t161 then (some (decide (t161 ≤ 65535))) else (some false)))) else (if (wrap64 ((t158.length : Int) + 2)) > 16 then (if (t158.length : Int) < 4 then (some (decide (t161 ≤ 65535))) else ((impl_SumBytes.f kj4 y164).bind fun t217 => (if t217 = t161 then (some (decide (t161 ≤ 65535))) else (some false)))) else ((impl_SumBytes.f kj4 (y207 ++ y210)).bind fun t218 => (if t218 = 0 then (if (t158.length : Int) < 4 then (some (decide (t161 ≤ 65535))) else ((impl_SumBytes.f kj4 y164).bind fun t219 => (if t219 = t161 then (some (decide (t161 ≤ 65535))) else (some false)))) else (some false))))) else (none)))) else (none))))) = some r := by rw [if_neg (show ¬ (false = true) by decide)] at H; exact H
         clear H
         have H := H1
         clear H1
         obtain ⟨y164, hy164⟩ : ∃ y_ : List Int, y_ = (([] : List Int)) := ⟨_, rfl⟩
         replace H : (if (t158.length : Int) ≥ 4 then (if 2 ≤ 4 then (if 4 ≤ (t158.length : Int) then ((some ((t158.take 4).drop 2 : List Int)).bind fun y167 => (if y164.length + y167.length < 17592186044416 then ((some (y164 ++ y167 : List Int)).bind fun y171 => (if 2 ≤ (t158.length : Int) then ((some (t158.take 2 : List Int)).bind fun y174 => (if y171.length + y174.length < 17592186044416 then ((some (y171 ++ y174 : List Int)).bind fun y178 => ((some (t158.drop 4 : List Int)).bind fun y181 => (if y178.length + y181.length < 17592186044416 then ((some (y178 ++ y181 : List Int)).bind fun y185 => ((some (([] : List Int) : List Int)).bind fun y188 => (if y188.length + t158.length < 17592186044416 then ((some (y188 ++ t158 : List Int)).bind fun y191 => ((some (([wrap64 (Int.tdiv t161 256), Int.tmod t161 256] : List Int) : List Int)).bind fun y194 => (if y191.length + y194.length < 17592186044416 then (if ((t158.length : Int) % 2) = 1 then (if (t158.length : Int) < 4 then (some (decide (t161 ≤ 65535))) else ((impl_SumBytes.f kj4 y185).bind fun t200 => (if t200 = t161 then (some (decide (t161 ≤ 65535))) else (some false)))) else (if (wrap64 ((t158.length : Int) + 2)) > 16 then (if (t158.length : Int) < 4 then (some (decide (t161 ≤ 65535))) else ((impl_SumBytes.f kj4 y185).bind fun t201 => (if t201 = t161 then (some (decide (t161 ≤ 65535))) else (some false)))) else ((impl_SumBytes.f kj4 (y191 ++ y194)).bind fun t202 => (if t202 = 0 then (if (t158.length : Int) < 4 then (some (decide (t161 ≤ 65535))) else ((impl_SumBytes.f kj4 y185).bind fun t203 => (if t203 = t161 then (some (decide (t161 ≤ 65535))) else (some false)))) else (some false))))) else (none)))) else (none)))) else (none)))) else (none))) else (none))) else (none))) else (none)) else (none)) else ((some (([] : List Int) : List Int)).bind fun y204 => (if y204.length + t158.length < 17592186044416 then ((some (y204 ++ t158 : List Int)).bind fun y207 => ((some (([wrap64 (Int.tdiv t161 256), Int.tmod t161 256] : List Int) : List Int)).bind fun y210 => (if y207.length + y210.length < 17592186044416 then (if ((t158.length : Int) % 2) = 1 then (if (t158.length : Int) < 4 then (some (decide (t161 ≤ 65535))) else ((impl_SumBytes.f kj4 y164).bind fun t216 => (if t216 = t161 then (some (decide (t161 ≤ 65535))) else (some false)))) else (if (wrap64 ((t158.length : Int) + 2)) > 16 then (if (t158.length : Int) < 4 then (some (decide (t161 ≤ 65535))) else ((impl_SumBytes.f kj4 y164).bind fun t217 => (if t217 = t161 then (some (decide (t161 ≤ 65535))) else (some false)))) else ((impl_SumBytes.f kj4 (y207 ++ y210)).bind fun t218 => (if t218 = 0 then (if (t158.length : Int) < 4 then (some (decide (t161 ≤ 65535))) else ((impl_SumBytes.f kj4 y164).bind fun t219 => (if t219 = t161 then (some (decide (t161 ≤ 65535))) else (some false)))) else (some false))))) else (none)))) else (none)))) = some r := by first | (rw [hy164]; with_reducible exact H) | (have H2_ := (Option.bind_some _ _).symm.trans H; rw [hy164]; with_reducible exact H2_) | (have H2_ := (Option.bind_some _ _).symm.trans H; with_reducible exact H2_) | with_reducible exact H | (rw [hy164]; exact H) | exact H
         have Ny164 := Aside0.mk hy164
         clear hy164
         by_cases c12 : (t158.length : Int) ≥ 4
         · rw [if_pos c12] at H
           have c12b0 : decide (4 ≤ (t158.length : Int)) = true := decide_eq_true c12
           have c12b1 : decide (4 ≤ t158.length) = true := decide_eq_true (by omega)
           clear c12
           by_cases c13 : 2 ≤ 4
           · rw [if_pos c13] at H
             have c13b0 := eq_true c13
             have c13b1 : decide (2 ≤ 4) = true := decide_eq_true c13
             clear c13
             by_cases c14 : 4 ≤ (t158.length : Int)
             · rw [if_pos c14] at H
               have c14b0 := eq_true c14
               have c14b1 : decide (4 ≤ (t158.length : Int)) = true := decide_eq_true c14
               clear c14
               obtain ⟨y167, hy167⟩ : ∃ y_ : List Int, y_ = ((t158.take 4).drop 2) := ⟨_, rfl⟩
               replace H : (if y164.length + y167.length < 17592186044416 then ((some (y164 ++ y167 : List Int)).bind fun y171 => (if 2 ≤ (t158.length : Int) then ((some (t158.take 2 : List Int)).bind fun y174 => (if y171.length + y174.length < 17592186044416 then ((some (y171 ++ y174 : List Int)).bind fun y178 => ((some (t158.drop 4 : List Int)).bind fun y181 => (if y178.length + y181.length < 17592186044416 then ((some (y178 ++ y181 : List Int)).bind fun y185 => ((some (([] : List Int) : List Int)).bind fun y188 => (if y188.length + t158.length < 17592186044416 then ((some (y188 ++ t158 : List Int)).bind fun y191 => ((some (([wrap64 (Int.tdiv t161 256), Int.tmod t161 256] : List Int) : List Int)).bind fun y194 => (if y191.length + y194.length < 17592186044416 then (if ((t158.length : Int) % 2) = 1 then (if (t158.length : Int) < 4 then (some (decide (t161 ≤ 65535))) else ((impl_SumBytes.f kj4 y185).bind fun t200 => (if t200 = t161 then (some (decide (t161 ≤ 65535))) else (some false)))) else (if (wrap64 ((t158.length : Int) + 2)) > 16 then (if (t158.length : Int) < 4 then (some (decide (t161 ≤ 65535))) else ((impl_SumBytes.f kj4 y185).bind fun t201 => (if t201 = t161 then (some (decide (t161 ≤ 65535))) else (some false)))) else ((impl_SumBytes.f kj4 (y191 ++ y194)).bind fun t202 => (if t202 = 0 then (if (t158.length : Int) < 4 then (some (decide (t161 ≤ 65535))) else ((impl_SumBytes.f kj4 y185).bind fun t203 => (if t203 = t161 then (some (decide (t161 ≤ 65535))) else (some false)))) else (some false))))) else (none)))) else (none)))) else (none)))) else (none))) else (none))) else (none)) = some r := by first | (rw [hy167]; with_reducible exact H) | (have H2_ := (Option.bind_some _ _).symm.trans H; rw [hy167]; with_reducible exact H2_) | (have H2_ := (Option.bind_some _ _).symm.trans H; with_reducible exact H2_) | with_reducible exact H | (rw [hy167]; exact H) | exact H
               have Ny167 := Aside0.mk hy167
               clear hy167
               by_cases c15 : y164.length + y167.length < 17592186044416
               · rw [if_pos c15] at H
                 have LMc15 := Aside0.mk c15
                 clear c15
                 obtain ⟨y171, hy171⟩ : ∃ y_ : List Int, y_ = (y164 ++ y167) := ⟨_, rfl⟩
                 replace H : (if 2 ≤ (t158.length : Int) then ((some (t158.take 2 : List Int)).bind fun y174 => (if y171.length + y174.length < 17592186044416 then ((some (y171 ++ y174 : List Int)).bind fun y178 => ((some (t158.drop 4 : List Int)).bind fun y181 => (if y178.length + y181.length < 17592186044416 then ((some (y178 ++ y181 : List Int)).bind fun y185 => ((some (([] : List Int) : List Int)).bind fun y188 => (if y188.length + t158.length < 17592186044416 then ((some (y188 ++ t158 : List Int)).bind fun y191 => ((some (([wrap64 (Int.tdiv t161 256), Int.tmod t161 256] : List Int) : List Int)).bind fun y194 => (if y191.length + y194.length < 17592186044416 then (if ((t158.length : Int) % 2) = 1 then (if (t158.length : Int) < 4 then (some (decide (t161 ≤ 65535))) else ((impl_SumBytes.f kj4 y185).bind fun t200 => (if t200 = t161 then (some (decide (t161 ≤ 65535))) else (some false)))) else (if (wrap64 ((t158.length : Int) + 2)) > 16 then (if (t158.length : Int) < 4 then (some (decide (t161 ≤ 65535))) else ((impl_SumBytes.f kj4 y185).bind fun t201 => (if t201 = t161 then (some (decide (t161 ≤ 65535))) else (some false)))) else ((impl_SumBytes.f kj4 (y191 ++ y194)).bind fun t202 => (if t202 = 0 then (if (t158.length : Int) < 4 then (some (decide (t161 ≤ 65535))) else ((impl_SumBytes.f kj4 y185).bind fun t203 => (if t203 = t161 then (some (decide (t161 ≤ 65535))) else (some false)))) else (some false))))) else (none)))) else (none)))) else (none)))) else (none))) else (none)) = some r := by first | (rw [hy171]; with_reducible exact H) | (have H2_ := (Option.bind_some _ _).symm.trans H; rw [hy171]; with_reducible exact H2_) | (have H2_ := (Option.bind_some _ _).symm.trans H; with_reducible exact H2_) | with_reducible exact H | (rw [hy171]; exact H) | exact H
                 have Ny171 := Aside0.mk hy171
                 clear hy171
                 by_cases c16 : 2 ≤ (t158.length : Int)
                 · rw [if_pos c16] at H
                   have c16b0 := eq_true c16
                   have c16b1 : decide (2 ≤ (t158.length : Int)) = true := decide_eq_true c16
                   clear c16
                   obtain ⟨y174, hy174⟩ : ∃ y_ : List Int, y_ = (t158.take 2) := ⟨_, rfl⟩
                   replace H : (if y171.length + y174.length < 17592186044416 then ((some (y171 ++ y174 : List Int)).bind fun y178 => ((some (t158.drop 4 : List Int)).bind fun y181 => (if y178.length + y181.length < 17592186044416 then ((some (y178 ++ y181 : List Int)).bind fun y185 => ((some (([] : List Int) : List Int)).bind fun y188 => (if y188.length + t158.length < 17592186044416 then ((some (y188 ++ t158 : List Int)).bind fun y191 => ((some (([wrap64 (Int.tdiv t161 256), Int.tmod t161 256] : List Int) : List Int)).bind fun y194 => (if y191.length + y194.length < 17592186044416 then (if ((t158.length : Int) % 2) = 1 then (if (t158.length : Int) < 4 then (some (decide (t161 ≤ 65535))) else ((impl_SumBytes.f kj4 y185).bind fun t200 => (if t200 = t161 then (some (decide (t161 ≤ 65535))) else (some false)))) else (if (wrap64 ((t158.length : Int) + 2)) > 16 then (if (t158.length : Int) < 4 then (some (decide (t161 ≤ 65535))) else ((impl_SumBytes.f kj4 y185).bind fun t201 => (if t201 = t161 then (some (decide (t161 ≤ 65535))) else (some false)))) else ((impl_SumBytes.f kj4 (y191 ++ y194)).bind fun t202 => (if t202 = 0 then (if (t158.length : Int) < 4 then (some (decide (t161 ≤ 65535))) else ((impl_SumBytes.f kj4 y185).bind fun t203 => (if t203 = t161 then (some (decide (t161 ≤ 65535))) else (some false)))) else (some false))))) else (none)))) else (none)))) else (none)))) else (none)) = some r := by first | (rw [hy174]; with_reducible exact H) | (have H2_ := (Option.bind_some _ _).symm.trans H; rw [hy174]; with_reducible exact H2_) | (have H2_ := (Option.bind_some _ _).symm.trans H; with_reducible exact H2_) | with_reducible exact H | (rw [hy174]; exact H) | exact H
                   have Ny174 := Aside0.mk hy174
                   clear hy174
                   by_cases c17 : y171.length + y174.length < 17592186044416
                   · rw [if_pos c17] at H
                     have LMc17 := Aside0.mk c17
                     clear c17
                     obtain ⟨y178, hy178⟩ : ∃ y_ : List Int, y_ = (y171 ++ y174) := ⟨_, rfl⟩
                     replace H : ((some (t158.drop 4 : List Int)).bind fun y181 => (if y178.length + y181.length < 17592186044416 then ((some (y178 ++ y181 : List Int)).bind fun y185 => ((some (([] : List Int) : List Int)).bind fun y188 => (if y188.length + t158.length < 17592186044416 then ((some (y188 ++ t158 : List Int)).bind fun y191 => ((some (([wrap64 (Int.tdiv t161 256), Int.tmod t161 256] : List Int) : List Int)).bind fun y194 => (if y191.length + y194.length < 17592186044416 then (if ((t158.length : Int) % 2) = 1 then (if (t158.length : Int) < 4 then (some (decide (t161 ≤ 65535))) else ((impl_SumBytes.f kj4 y185).bind fun t200 => (if t200 = t161 then (some (decide (t161 ≤ 65535))) else (some false)))) else (if (wrap64 ((t158.length : Int) + 2)) > 16 then (if (t158.length : Int) < 4 then (some (decide (t161 ≤ 65535))) else ((impl_SumBytes.f kj4 y185).bind fun t201 => (if t201 = t161 then (some (decide (t161 ≤ 65535))) else (some false)))) else ((impl_SumBytes.f kj4 (y191 ++ y194)).bind fun t202 => (if t202 = 0 then (if (t158.length : Int) < 4 then (some (decide (t161 ≤ 65535))) else ((impl_SumBytes.f kj4 y185).bind fun t203 => (if t203 = t161 then (some (decide (t161 ≤ 65535))) else (some false)))) else (some false))))) else (none)))) else (none)))) else (none))) = some r := by first | (rw [hy178]; with_reducible exact H) | (have H2_ := (Option.bind_some _ _).symm.trans H; rw [hy178]; with_reducible exact H2_) | (have H2_ := (Option.bind_some _ _).symm.trans H; with_reducible exact H2_) | with_reducible exact H | (rw [hy178]; exact H) | exact H
                     have Ny178 := Aside0.mk hy178
                     clear hy178
                     have c18b0 := eq_true (of_decide_eq_true (by assumption) : 4 ≤ (t158.length : Int))
                     obtain ⟨y181, hy181⟩ : ∃ y_ : List Int, y_ = (t158.drop 4) := ⟨_, rfl⟩
                     replace H : (if y178.length + y181.length < 17592186044416 then ((some (y178 ++ y181 : List Int)).bind fun y185 => ((some (([] : List Int) : List Int)).bind fun y188 => (if y188.length + t158.length < 17592186044416 then ((some (y188 ++ t158 : List Int)).bind fun y191 => ((some (([wrap64 (Int.tdiv t161 256), Int.tmod t161 256] : List Int) : List Int)).bind fun y194 => (if y191.length + y194.length < 17592186044416 then (if ((t158.length : Int) % 2) = 1 then (if (t158.length : Int) < 4 then (some (decide (t161 ≤ 65535))) else ((impl_SumBytes.f kj4 y185).bind fun t200 => (if t200 = t161 then (some (decide (t161 ≤ 65535))) else (some false)))) else (if (wrap64 ((t158.length : Int) + 2)) > 16 then (if (t158.length : Int) < 4 then (some (decide (t161 ≤ 65535))) else ((impl_SumBytes.f kj4 y185).bind fun t201 => (if t201 = t161 then (some (decide (t161 ≤ 65535))) else (some false)))) else ((impl_SumBytes.f kj4 (y191 ++ y194)).bind fun t202 => (if t202 = 0 then (if (t158.length : Int) < 4 then (some (decide (t161 ≤ 65535))) else ((impl_SumBytes.f kj4 y185).bind fun t203 => (if t203 = t161 then (some (decide (t161 ≤ 65535))) else (some false)))) else (some false))))) else (none)))) else (none)))) else (none)) = some r := by first | (rw [hy181]; with_reducible exact H) | (have H2_ := (Option.bind_some _ _).symm.trans H; rw [hy181]; with_reducible exact H2_) | (have H2_ := (Option.bind_some _ _).symm.trans H; with_reducible exact H2_) | with_reducible exact H | (rw [hy181]; exact H) | exact H
                     have Ny181 := Aside0.mk hy181
                     clear hy181
                     by_cases c19 : y178.length + y181.length < 17592186044416
                     · rw [if_pos c19] at H
                       have LMc19 := Aside0.mk c19
                       clear c19
                       obtain ⟨y185, hy185⟩ : ∃ y_ : List Int, y_ = (y178 ++ y181) := ⟨_, rfl⟩
                       replace H : ((some (([] : List Int) : List Int)).bind fun y188 => (if y188.length + t158.length < 17592186044416 then ((some (y188 ++ t158 : List Int)).bind fun y191 => ((some (([wrap64 (Int.tdiv t161 256), Int.tmod t161 256] : List Int) : List Int)).bind fun y194 => (if y191.length + y194.length < 17592186044416 then (if ((t158.length : Int) % 2) = 1 then (if (t158.length : Int) < 4 then (some (decide (t161 ≤ 65535))) else ((impl_SumBytes.f kj4 y185).bind fun t200 => (if t200 = t161 then (some (decide (t161 ≤ 65535))) else (some false)))) else (if (wrap64 ((t158.length : Int) + 2)) > 16 then (if (t158.length : Int) < 4 then (some (decide (t161 ≤ 65535))) else ((impl_SumBytes.f kj4 y185).bind fun t201 => (if t201 = t161 then (some (decide (t161 ≤ 65535))) else (some false)))) else ((impl_SumBytes.f kj4 (y191 ++ y194)).bind fun t202 => (if t202 = 0 then (if (t158.length : Int) < 4 then (some (decide (t161 ≤ 65535))) else ((impl_SumBytes.f kj4 y185).bind fun t203 => (if t203 = t161 then (some (decide (t161 ≤ 65535))) else (some false)))) else (some false))))) else (none)))) else (none))) = some r := by first | (rw [hy185]; with_reducible exact H) | (have H2_ := (Option.bind_some _ _).symm.trans H; rw [hy185]; with_reducible exact H2_) | (have H2_ := (Option.bind_some _ _).symm.trans H; with_reducible exact H2_) | with_reducible exact H | (rw [hy185]; exact H) | exact H
                       have Ny185 := Aside0.mk hy185
                       clear hy185
                       obtain ⟨y188, hy188⟩ : ∃ y_ : List Int, y_ = (([] : List Int)) := ⟨_, rfl⟩
                       replace H : (if y188.length + t158.length < 17592186044416 then ((some (y188 ++ t158 : List Int)).bind fun y191 => ((some (([wrap64 (Int.tdiv t161 256), Int.tmod t161 256] : List Int) : List Int)).bind fun y194 => (if y191.length + y194.length < 17592186044416 then (if ((t158.length : Int) % 2) = 1 then (if (t158.length : Int) < 4 then (some (decide (t161 ≤ 65535))) else ((impl_SumBytes.f kj4 y185).bind fun t200 => (if t200 = t161 then (some (decide (t161 ≤ 65535))) else (some false)))) else (if (wrap64 ((t158.length : Int) + 2)) > 16 then (if (t158.length : Int) < 4 then (some (decide (t161 ≤ 65535))) else ((impl_SumBytes.f kj4 y185).bind fun t201 => (if t201 = t161 then (some (decide (t161 ≤ 65535))) else (some false)))) else ((impl_SumBytes.f kj4 (y191 ++ y194)).bind fun t202 => (if t202 = 0 then (if (t158.length : Int) < 4 then (some (decide (t161 ≤ 65535))) else ((impl_SumBytes.f kj4 y185).bind fun t203 => (if t203 = t161 then (some (decide (t161 ≤ 65535))) else (some false)))) else (some false))))) else (none)))) else (none)) = some r := by first | (rw [hy188]; with_reducible exact H) | (have H2_ := (Option.bind_some _ _).symm.trans H; rw [hy188]; with_reducible exact H2_) | (have H2_ := (Option.bind_some _ _).symm.trans H; with_reducible exact H2_) | with_reducible exact H | (rw [hy188]; exact H) | exact H
                       have Ny188 := Aside0.mk hy188
                       clear hy188
                       by_cases c20 : y188.length + t158.length < 17592186044416
                       · rw [if_pos c20] at H
                         have LMc20 := Aside0.mk c20
                         clear c20
                         obtain ⟨y191, hy191⟩ : ∃ y_ : List Int, y_ = (y188 ++ t158) := ⟨_, rfl⟩
                         replace H : ((some (([wrap64 (Int.tdiv t161 256), Int.tmod t161 256] : List Int) : List Int)).bind fun y194 => (if y191.length + y194.length < 17592186044416 then (if ((t158.length : Int) % 2) = 1 then (if (t158.length : Int) < 4 then (some (decide (t161 ≤ 65535))) else ((impl_SumBytes.f kj4 y185).bind fun t200 => (if t200 = t161 then (some (decide (t161 ≤ 65535))) else (some false)))) else (if (wrap64 ((t158.length : Int) + 2)) > 16 then (if (t158.length : Int) < 4 then (some (decide (t161 ≤ 65535))) else ((impl_SumBytes.f kj4 y185).bind fun t201 => (if t201 = t161 then (some (decide (t161 ≤ 65535))) else (some false)))) else ((impl_SumBytes.f kj4 (y191 ++ y194)).bind fun t202 => (if t202 = 0 then (if (t158.length : Int) < 4 then (some (decide (t161 ≤ 65535))) else ((impl_SumBytes.f kj4 y185).bind fun t203 => (if t203 = t161 then (some (decide (t161 ≤ 65535))) else (some false)))) else (some false))))) else (none))) = some r := by first | (rw [hy191]; with_reducible exact H) | (have H2_ := (Option.bind_some _ _).symm.trans H; rw [hy191]; with_reducible exact H2_) | (have H2_ := (Option.bind_some _ _).symm.trans H; with_reducible exact H2_) | with_reducible exact H | (rw [hy191]; exact H) | exact H
                         have Ny191 := Aside0.mk hy191
                         clear hy191
                         obtain ⟨y194, hy194⟩ : ∃ y_ : List Int, y_ = (([wrap64 (Int.tdiv t161 256), Int.tmod t161 256] : List Int)) := ⟨_, rfl⟩
                         replace H : (if y191.length + y194.length < 17592186044416 then (if ((t158.length : Int) % 2) = 1 then (if (t158.length : Int) < 4 then (some (decide (t161 ≤ 65535))) else ((impl_SumBytes.f kj4 y185).bind fun t200 => (if t200 = t161 then (some (decide (t161 ≤ 65535))) else (some false)))) else (if (wrap64 ((t158.length : Int) + 2)) > 16 then (if (t158.length : Int) < 4 then (some (decide (t161 ≤ 65535))) else ((impl_SumBytes.f kj4 y185).bind fun t201 => (if t201 = t161 then (some (decide (t161 ≤ 65535))) else (some false)))) else ((impl_SumBytes.f kj4 (y191 ++ y194)).bind fun t202 => (if t202 = 0 then (if (t158.length : Int) < 4 then (some (decide (t161 ≤ 65535))) else ((impl_SumBytes.f kj4 y185).bind fun t203 => (if t203 = t161 then (some (decide (t161 ≤ 65535))) else (some false)))) else (some false))))) else (none)) = some r := by first | (rw [hy194]; with_reducible exact H) | (have H2_ := (Option.bind_some _ _).symm.trans H; rw [hy194]; with_reducible exact H2_) | (have H2_ := (Option.bind_some _ _).symm.trans H; with_reducible exact H2_) | with_reducible exact H | (rw [hy194]; exact H) | exact H
                         have Ny194 := Aside0.mk hy194
                         clear hy194
                         by_cases c21 : y191.length + y194.length < 17592186044416
                         · rw [if_pos c21] at H
                           have LMc21 := Aside0.mk c21
                           clear c21
                           obtain ⟨y197, hy197⟩ : ∃ y_ : List Int, y_ = (y191 ++ y194) := ⟨_, rfl⟩
                           replace H : (if ((t158.length : Int) % 2) = 1 then (if (t158.length : Int) < 4 then (some (decide (t161 ≤ 65535))) else ((impl_SumBytes.f kj4 y185).bind fun t200 => (if t200 = t161 then (some (decide (t161 ≤ 65535))) else (some false)))) else (if (wrap64 ((t158.length : Int) + 2)) > 16 then (if (t158.length : Int) < 4 then (some (decide (t161 ≤ 65535))) else ((impl_SumBytes.f kj4 y185).bind fun t201 => (if t201 = t161 then (some (decide (t161 ≤ 65535))) else (some false)))) else ((impl_SumBytes.f kj4 y197).bind fun t202 => (if t202 = 0 then (if (t158.length : Int) < 4 then (some (decide (t161 ≤ 65535))) else ((impl_SumBytes.f kj4 y185).bind fun t203 => (if t203 = t161 then (some (decide (t161 ≤ 65535))) else (some false)))) else (some false))))) = some r := by first | (rw [hy197]; with_reducible exact H) | (have H2_ := (Option.bind_some _ _).symm.trans H; rw [hy197]; with_reducible exact H2_) | (have H2_ := (Option.bind_some _ _).symm.trans H; with_reducible exact H2_) | with_reducible exact H | (rw [hy197]; exact H) | exact H
                           have Ny197 := Aside0.mk hy197
                           clear hy197
                           try go_wp2_with (first | ((with_reducible refine gate_dst (N := 29) rfl ?_); refine Kd.R_lit (Kd.int .i64) _ 3 ?hg (N := 29) ?hd (xs := ([] : List Int)) (inner := []) (ok := fun _ => True) (okp := fun _ => True) ?hr ?hp (fun _ hk => hk) trivial (Below.refl _ _) (Nat.le_refl _) (by simp) ?_; (case hd => rfl); (case hg => rfl); (case hr => first | (go_simp; done) | (go_simp; rfl)); (case hp => exact (Reps.none _ _)); intro v165 w152 ho153 hb hg_ hnew_; clear hg_ hnew_; (first | rw [← Ny164.out] at ho153 | (simp only [Int.reduceToNat] at ho153; rw [← Ny164.out] at ho153)); have n0_ := Aside0.mk (Kd.R_elder' (by (with_reducible repeat (first | apply Kd.R_alloc | apply Kd.R_drewN | apply Kd.R_drew)); exact HO_3.out) (Kd.R_base ho153) hb); have n1_ := Aside0.mk (Kd.R_lower (Kd.R_new' ho153 (Kd.R_lt (by (with_reducible repeat (first | apply Kd.R_alloc | apply Kd.R_drewN | apply Kd.R_drew)); exact HO_3.out))) (below_size (by repeat (first | (with_reducible first | exact HB.out | apply below_alloc | apply pw_below_drewN | apply below_drew1) | exact HB.out)))); have n2_ := Aside0.mk (below_step (by repeat (first | (with_reducible first | exact HB.out | apply below_alloc | apply pw_below_drewN | apply below_drew1) | exact HB.out)) hb); clear HO_3; clear HB; have HO_3 := n0_; have HO166 := n1_; have HB := n2_; clear n0_ n1_ n2_; clear hb ho153))
                           have n0_ := Aside0.mk (Kd.R_drew HO_3.out)
                           have n1_ := Aside0.mk (Kd.R_drew HO166.out)
                           have n2_ := Aside0.mk (below_drew1 HB.out)
                           clear HO_3
                           clear HO166
                           clear HB
                           have HO_3 := n0_
                           have HO166 := n1_
                           have HB := n2_
                           clear n0_ n1_ n2_
                           have q155 : (4 : Int) ≤ ((t158.length : Int) : Int) := of_decide_eq_true (by assumption)
                           obtain ⟨i0155, hi0155, _, hsz155, _⟩ := info_parts info3
                           have hroom155 : t158.length ≤ co7 := (Kd.R_reads' HO_3.out).2.1
                           have hC155 : Kd.C (Kd.int .i64) _ Ao7 t158.length t158 := (Kd.R_reads' HO_3.out).2.2
                           have ql155 : (2 : Int) ≤ (4 : Int) := (by omega)
                           have hcut155 := cut_mid (P := Try.prog) 22 3 .i64 .i64 Try.underlying22 hi0155 1 hsz155 Ao7 t158.length co7 2 4 (by omega) ql155 q155 hroom155
                           have hr155 := Kd.C_mid (lo := (2 : Int).toNat) (hi := (4 : Int).toNat) (c := co7) hC155 (by omega) (by omega) hroom155
                           obtain ⟨A155, hA155⟩ : ∃ A1, A1 = (if co7 = (2 : Int).toNat then Ao7 else (Ao7 : Option Addr).map (·.add ((2 : Int).toNat * 1))) := ⟨_, rfl⟩
                           obtain ⟨c155, hc155⟩ : ∃ c1, c1 = co7 - (2 : Int).toNat := ⟨_, rfl⟩
                           have hy155 : y167.length = (4 : Int).toNat - (2 : Int).toNat := (by rw [Ny167.out, List.length_drop, List.length_take] <;> omega)
                           rw [show ((t158).take (4 : Int).toNat).drop (2 : Int).toNat = y167 from Ny167.out.symm] at hr155
                           replace hr155 : Kd.C (Kd.int .i64) _ A155 y167.length y167 := (by rw [hA155]; exact hr155)
                           rw [← hy155, ← hA155, ← hc155] at hcut155
                           have HR170 := Aside0.mk hr155
                           have HC170 := Aside0.mk (show y167.length ≤ c155 from by rw [hy155, hc155]; exact Nat.sub_le_sub_right (Nat.le_trans (by omega) hroom155) _)
                           clear hr155 hC155 hroom155 hi0155 hsz155 hc155
                           have KY155 := Aside0.mk hy155
                           have KA155 := Aside0.mk hA155
                           clear hy155 hA155
                           have KL155 := Aside0.mk (show 4 ≤ t158.length from by omega)
                           have KM155 := Aside0.mk (show 2 ≤ 4 from by omega)
                           replace q155 := eq_true q155
                           have q156 : (2 : Int) ≤ ((t158.length : Int) : Int) := of_decide_eq_true (by assumption)
                           obtain ⟨i0156, hi0156, _, hsz156, _⟩ := info_parts info3
                           have hroom156 : t158.length ≤ co7 := (Kd.R_reads' HO_3.out).2.1
                           have hC156 : Kd.C (Kd.int .i64) _ Ao7 t158.length t158 := (Kd.R_reads' HO_3.out).2.2
                           have hcut156 := cut_to (P := Try.prog) 22 3 .i64 Try.underlying22 hi0156 Ao7 t158.length co7 2 (by omega) q156 hroom156
                           have hr156 := Kd.C_take (m := 2) hC156 (by omega)
                           have hy156 : y174.length = (2 : Int).toNat := (by rw [Ny174.out, List.length_take]; omega)
                           rw [← Ny174.out] at hr156
                           rw [← hy156] at hcut156
                           have HR177 := Aside0.mk hr156
                           have HC177 := Aside0.mk (show y174.length ≤ co7 from by omega)
                           clear hr156 hC156 hroom156 hi0156 hsz156
                           have KY156 := Aside0.mk hy156
                           clear hy156
                           have KL156 := Aside0.mk (show 2 ≤ t158.length from by omega)
                           replace q156 := eq_true q156
                           have q157 : (4 : Int) ≤ ((t158.length : Int) : Int) := of_decide_eq_true (by assumption)
                           obtain ⟨i0157, hi0157, _, hsz157, _⟩ := info_parts info3
                           have hroom157 : t158.length ≤ co7 := (Kd.R_reads' HO_3.out).2.1
                           have hC157 : Kd.C (Kd.int .i64) _ Ao7 t158.length t158 := (Kd.R_reads' HO_3.out).2.2
                           have hcut157 := cut_from (P := Try.prog) 22 3 .i64 Try.underlying22 hi0157 1 hsz157 Ao7 t158.length co7 4 (by omega) q157
                           have hr157 := Kd.C_drop (m := (4 : Int).toNat) (c := co7) hC157 (by omega) hroom157
                           obtain ⟨A157, hA157⟩ : ∃ A1, A1 = (if co7 = (4 : Int).toNat then Ao7 else (Ao7 : Option Addr).map (·.add ((4 : Int).toNat * 1))) := ⟨_, rfl⟩
                           obtain ⟨c157, hc157⟩ : ∃ c1, c1 = co7 - (4 : Int).toNat := ⟨_, rfl⟩
                           have hy157 : y181.length = t158.length - (4 : Int).toNat := (by rw [Ny181.out, List.length_drop] <;> omega)
                           rw [show (t158).drop (4 : Int).toNat = y181 from Ny181.out.symm] at hr157
                           replace hr157 : Kd.C (Kd.int .i64) _ A157 y181.length y181 := (by rw [hA157]; exact hr157)
                           rw [← hy157, ← hA157, ← hc157] at hcut157
                           have HR184 := Aside0.mk hr157
                           have HC184 := Aside0.mk (show y181.length ≤ c157 from by rw [hy157, hc157]; exact Nat.sub_le_sub_right hroom157 _)
                           clear hr157 hC157 hroom157 hi0157 hsz157 hc157
                           have KY157 := Aside0.mk hy157
                           have KA157 := Aside0.mk hA157
                           clear hy157 hA157
                           have KL157 := Aside0.mk (show 4 ≤ t158.length from by omega)
                           replace q157 := eq_true q157
                           refine start_ (n := 11) (S := fun w' => True) (ds := []) #[false, false, false, false, false, false, false, false, false, false, false] (by kernel_rfl) rfl rfl trivial (fun hHeld => ?_); refine with_tabW laws_FnSumBytes.tab10 laws_FnSumBytes.bits10 (fun HT_ HW_ => ?_)
                           generalize w152.drew = w154 at HO_3 HO166 HB HR170 HR177 HR184 hHeld ⊢
                           refine pure_ (i := 0) (N := some 32) (v := ?_) (a' := ?_) #[true, false, false, false, false, false, false, false, false, false, false] rfl rfl (any_of HT_.out (by kernel_rfl)) (fun _ _ _ h => h) (Or.inl ⟨by rfl, ?_⟩) ?_ ?_
                           rotate_left
                           · intro w'
                             go_simp
                             with_reducible rfl
                           rotate_left
                           · simp only [Act.put, List.setIfInBounds_toArray, List.set_cons_zero, List.set_cons_succ, i64_w, i32_w]
                             rfl
                           refine pure_ (i := 1) (N := some 33) (v := ?_) (a' := ?_) #[true, true, false, false, false, false, false, false, false, false, false] rfl rfl (any_of HT_.out (by kernel_rfl)) (fun _ _ _ h => h) (Or.inl ⟨by rfl, ?_⟩) ?_ ?_
                           rotate_left
                           · intro w'
                             go_simp
                             with_reducible rfl
                           rotate_left
                           · simp only [Act.put, List.setIfInBounds_toArray, List.set_cons_zero, List.set_cons_succ, i64_w, i32_w]
                             rfl
                           refine pure_ (i := 2) (N := some 34) (v := ?_) (a' := ?_) #[true, true, true, false, false, false, false, false, false, false, false] rfl rfl (any_of HT_.out (by kernel_rfl)) (fun _ _ _ h => h) (Or.inl ⟨by rfl, ?_⟩) ?_ ?_
                           rotate_left
                           · intro w'
                             go_simp
                             with_reducible rfl
                           rotate_left
                           · simp only [Act.put, List.setIfInBounds_toArray, List.set_cons_zero, List.set_cons_succ, i64_w, i32_w]
                             rfl
                           refine pure_ (i := 4) (N := some 36) (v := ?_) (a' := ?_) #[true, true, true, false, true, false, false, false, false, false, false] rfl rfl (any_of HT_.out (by kernel_rfl)) (fun _ _ _ h => h) (Or.inl ⟨by rfl, ?_⟩) ?_ ?_
                           rotate_left
                           · intro w'
                             go_simp
                             with_reducible rfl
                           rotate_left
                           · simp only [Act.put, List.setIfInBounds_toArray, List.set_cons_zero, List.set_cons_succ, i64_w, i32_w]
                             rfl
                           refine pure_ (i := 5) (N := some 37) (v := ?_) (a' := ?_) #[true, true, true, false, true, true, false, false, false, false, false] rfl rfl (any_of HT_.out (by kernel_rfl)) (fun _ _ _ h => h) (Or.inl ⟨by rfl, ?_⟩) ?_ ?_
                           rotate_left
                           · intro w'
                             go_simp
                             with_reducible rfl
                           rotate_left
                           · simp only [Act.put, List.setIfInBounds_toArray, List.set_cons_zero, List.set_cons_succ, i64_w, i32_w]
                             rfl
                           refine pure_ (i := 7) (N := some 39) (v := ?_) (a' := ?_) #[true, true, true, false, true, true, false, true, false, false, false] rfl rfl (any_of HT_.out (by kernel_rfl)) (fun _ _ _ h => h) (Or.inl ⟨by rfl, ?_⟩) ?_ ?_
                           rotate_left
                           · intro w'
                             go_simp
                             with_reducible rfl
                           rotate_left
                           · simp only [Act.put, List.setIfInBounds_toArray, List.set_cons_zero, List.set_cons_succ, i64_w, i32_w]
                             rfl
                           refine pure_ (i := 8) (N := some 40) (v := ?_) (a' := ?_) #[true, true, true, false, true, true, false, true, true, false, false] rfl rfl (any_of HT_.out (by kernel_rfl)) (fun _ _ _ h => h) (Or.inl ⟨by rfl, ?_⟩) ?_ ?_
                           rotate_left
                           · intro w'
                             go_simp
                             with_reducible rfl
                           rotate_left
                           · simp only [Act.put, List.setIfInBounds_toArray, List.set_cons_zero, List.set_cons_succ, i64_w, i32_w]
                             rfl
                           refine one_ (i := 3) (N := some 35) #[true, true, true, true, true, true, false, true, true, false, false] rfl rfl (one_of HT_.out (by kernel_rfl)) (by decide) (fun K hK => ?_)
                           refine Kd.R_append_rows_step (Kd.int .i64) (w0 := w) w.heap.size (by rfl) (.tmp 32) (.tmp 34) 22 3 (.int .i64 0) 8 rfl Try.underlying22 info3 rfl (by decide) (by omega) v165 y164 y167 _ _ _ (fun k_ => some k_ ≠ (.slice Ao7 t158.length co7 : Value).ownBlock) (fun _ => False) rfl rfl ?aO ?aR (fun _ _ h => h) (fun _ h => h.elim) ?aF ?aB ?aS ?aL ?_
                           (case aR => repeat (first | exact (by repeat (first | (with_reducible exact HR170.out) | (with_reducible refine Kd.C_alloc ?_ _) | (with_reducible refine Kd.C_drewN ?_ _) | (with_reducible refine Kd.C_drew ?_) | exact HR170.out)) | (with_reducible refine Kd.C_alloc ?_ _) | (with_reducible refine Kd.C_drewN ?_ _) | (with_reducible refine Kd.C_drew ?_)))
                           (case aB => exact (by repeat (first | (with_reducible first | exact HB.out | apply below_alloc | apply pw_below_drewN | apply below_drew1) | exact HB.out)))
                           (case aF => exact (fun k_ hk => Kd.fresh' (Kd.R_lt (by (with_reducible repeat (first | apply Kd.R_alloc | apply Kd.R_drewN | apply Kd.R_drew)); exact HO_3.out)) k_ hk))
                           (case aO => exact (by (with_reducible repeat (first | apply Kd.R_alloc | apply Kd.R_drewN | apply Kd.R_drew)); exact Kd.R_mono HO166.out (fun _ hk => hk.2)))
                           (case aS => exact (below_size (by repeat (first | (with_reducible first | exact HB.out | apply below_alloc | apply pw_below_drewN | apply below_drew1) | exact HB.out))))
                           (case aL => have := LMc15.out; omega)
                           intro v172 w158 ho hb hg hat
                           rw [← Ny171.out] at ho
                           have n0_ := Aside0.mk (Kd.R_after (ok := (fun _ => True)) (by (with_reducible repeat (first | apply Kd.R_alloc | apply Kd.R_drewN | apply Kd.R_drew)); exact HO_3.out) hg hat)
                           have n1_ := Aside0.mk (hb)
                           have n2_ := Aside0.mk ((show Kd.C (Kd.int .i64) w158 A155 y167.length y167 from by rw [Ny167.out, KA155.out]; exact Kd.C_mid (lo := 2) (hi := 4) (c := co7) ((Kd.R_reads' (Kd.R_after (ok := (fun _ => True)) (by (with_reducible repeat (first | apply Kd.R_alloc | apply Kd.R_drewN | apply Kd.R_drew)); exact HO_3.out) hg hat)).2.2) KM155.out KL155.out ((Kd.R_reads' (Kd.R_after (ok := (fun _ => True)) (by (with_reducible repeat (first | apply Kd.R_alloc | apply Kd.R_drewN | apply Kd.R_drew)); exact HO_3.out) hg hat)).2.1)))
                           have n3_ := Aside0.mk ((show Kd.C (Kd.int .i64) w158 Ao7 y174.length y174 from by rw [Ny174.out]; exact Kd.C_take (m := 2) ((Kd.R_reads' (Kd.R_after (ok := (fun _ => True)) (by (with_reducible repeat (first | apply Kd.R_alloc | apply Kd.R_drewN | apply Kd.R_drew)); exact HO_3.out) hg hat)).2.2) KL156.out))
                           have n4_ := Aside0.mk ((show Kd.C (Kd.int .i64) w158 A157 y181.length y181 from by rw [Ny181.out, KA157.out]; exact Kd.C_drop (m := 4) (c := co7) ((Kd.R_reads' (Kd.R_after (ok := (fun _ => True)) (by (with_reducible repeat (first | apply Kd.R_alloc | apply Kd.R_drewN | apply Kd.R_drew)); exact HO_3.out) hg hat)).2.2) KL157.out ((Kd.R_reads' (Kd.R_after (ok := (fun _ => True)) (by (with_reducible repeat (first | apply Kd.R_alloc | apply Kd.R_drewN | apply Kd.R_drew)); exact HO_3.out) hg hat)).2.1)))
                           have n5_ := Aside0.mk (ho)
                           clear HO_3
                           clear HB
                           clear HR170
                           clear HR177
                           clear HR184
                           clear HO166
                           have HO_3 := n0_
                           have HB := n1_
                           have HR170 := n2_
                           have HR177 := n3_
                           have HR184 := n4_
                           have HO173 := n5_
                           clear n0_ n1_ n2_ n3_ n4_ n5_
                           clear ho hb hg hat
                           refine hK.out _ _ trivial (fun hHeld => ?_)
                           clear hK K
                           refine norm_ (a' := ?_) ?_ ?_
                           rotate_left
                           · show Act.put _ (some 35) _ = _
                             simp only [Act.put, List.setIfInBounds_toArray, List.set_cons_zero, List.set_cons_succ, i64_w, i32_w]
                             rfl
                           refine one_ (i := 6) (N := some 38) #[true, true, true, true, true, true, true, true, true, false, false] rfl rfl (one_of HT_.out (by kernel_rfl)) (by decide) (fun K hK => ?_)
                           refine Kd.R_append_rows_step (Kd.int .i64) (w0 := w) w.heap.size (by rfl) (.tmp 35) (.tmp 37) 22 3 (.int .i64 0) 8 rfl Try.underlying22 info3 rfl (by decide) (by omega) v172 y171 y174 _ _ _ (fun k_ => some k_ ≠ (.slice Ao7 t158.length co7 : Value).ownBlock) (fun _ => False) rfl rfl ?aO ?aR (fun _ _ h => h) (fun _ h => h.elim) ?aF ?aB ?aS ?aL ?_
                           (case aR => repeat (first | exact (by repeat (first | (with_reducible exact HR177.out) | (with_reducible refine Kd.C_alloc ?_ _) | (with_reducible refine Kd.C_drewN ?_ _) | (with_reducible refine Kd.C_drew ?_) | exact HR177.out)) | (with_reducible refine Kd.C_alloc ?_ _) | (with_reducible refine Kd.C_drewN ?_ _) | (with_reducible refine Kd.C_drew ?_)))
                           (case aB => exact (by repeat (first | (with_reducible first | exact HB.out | apply below_alloc | apply pw_below_drewN | apply below_drew1) | exact HB.out)))
                           (case aF => exact (fun k_ hk => Kd.fresh' (Kd.R_lt (by (with_reducible repeat (first | apply Kd.R_alloc | apply Kd.R_drewN | apply Kd.R_drew)); exact HO_3.out)) k_ hk))
                           (case aO => exact (by (with_reducible repeat (first | apply Kd.R_alloc | apply Kd.R_drewN | apply Kd.R_drew)); exact HO173.out))
                           (case aS => exact (below_size (by repeat (first | (with_reducible first | exact HB.out | apply below_alloc | apply pw_below_drewN | apply below_drew1) | exact HB.out))))
                           (case aL => have := LMc17.out; omega)
                           intro v179 w159 ho hb hg hat
                           rw [← Ny178.out] at ho
                           have n0_ := Aside0.mk (Kd.R_after (ok := (fun _ => True)) (by (with_reducible repeat (first | apply Kd.R_alloc | apply Kd.R_drewN | apply Kd.R_drew)); exact HO_3.out) hg hat)
                           have n1_ := Aside0.mk (hb)
                           have n2_ := Aside0.mk ((show Kd.C (Kd.int .i64) w159 A155 y167.length y167 from by rw [Ny167.out, KA155.out]; exact Kd.C_mid (lo := 2) (hi := 4) (c := co7) ((Kd.R_reads' (Kd.R_after (ok := (fun _ => True)) (by (with_reducible repeat (first | apply Kd.R_alloc | apply Kd.R_drewN | apply Kd.R_drew)); exact HO_3.out) hg hat)).2.2) KM155.out KL155.out ((Kd.R_reads' (Kd.R_after (ok := (fun _ => True)) (by (with_reducible repeat (first | apply Kd.R_alloc | apply Kd.R_drewN | apply Kd.R_drew)); exact HO_3.out) hg hat)).2.1)))
                           have n3_ := Aside0.mk ((show Kd.C (Kd.int .i64) w159 Ao7 y174.length y174 from by rw [Ny174.out]; exact Kd.C_take (m := 2) ((Kd.R_reads' (Kd.R_after (ok := (fun _ => True)) (by (with_reducible repeat (first | apply Kd.R_alloc | apply Kd.R_drewN | apply Kd.R_drew)); exact HO_3.out) hg hat)).2.2) KL156.out))
                           have n4_ := Aside0.mk ((show Kd.C (Kd.int .i64) w159 A157 y181.length y181 from by rw [Ny181.out, KA157.out]; exact Kd.C_drop (m := 4) (c := co7) ((Kd.R_reads' (Kd.R_after (ok := (fun _ => True)) (by (with_reducible repeat (first | apply Kd.R_alloc | apply Kd.R_drewN | apply Kd.R_drew)); exact HO_3.out) hg hat)).2.2) KL157.out ((Kd.R_reads' (Kd.R_after (ok := (fun _ => True)) (by (with_reducible repeat (first | apply Kd.R_alloc | apply Kd.R_drewN | apply Kd.R_drew)); exact HO_3.out) hg hat)).2.1)))
                           have n5_ := Aside0.mk (ho)
                           clear HO_3
                           clear HB
                           clear HR170
                           clear HR177
                           clear HR184
                           clear HO173
                           have HO_3 := n0_
                           have HB := n1_
                           have HR170 := n2_
                           have HR177 := n3_
                           have HR184 := n4_
                           have HO180 := n5_
                           clear n0_ n1_ n2_ n3_ n4_ n5_
                           clear ho hb hg hat
                           refine hK.out _ _ trivial (fun hHeld => ?_)
                           clear hK K
                           refine norm_ (a' := ?_) ?_ ?_
                           rotate_left
                           · show Act.put _ (some 38) _ = _
                             simp only [Act.put, List.setIfInBounds_toArray, List.set_cons_zero, List.set_cons_succ, i64_w, i32_w]
                             rfl
                           refine one_ (i := 9) (N := some 41) #[true, true, true, true, true, true, true, true, true, true, false] rfl rfl (one_of HT_.out (by kernel_rfl)) (by decide) (fun K hK => ?_)
                           refine Kd.R_append_rows_step (Kd.int .i64) (w0 := w) w.heap.size (by rfl) (.tmp 38) (.tmp 40) 22 3 (.int .i64 0) 8 rfl Try.underlying22 info3 rfl (by decide) (by omega) v179 y178 y181 _ _ _ (fun k_ => some k_ ≠ (.slice Ao7 t158.length co7 : Value).ownBlock) (fun _ => False) rfl rfl ?aO ?aR (fun _ _ h => h) (fun _ h => h.elim) ?aF ?aB ?aS ?aL ?_
                           (case aR => repeat (first | exact (by repeat (first | (with_reducible exact HR184.out) | (with_reducible refine Kd.C_alloc ?_ _) | (with_reducible refine Kd.C_drewN ?_ _) | (with_reducible refine Kd.C_drew ?_) | exact HR184.out)) | (with_reducible refine Kd.C_alloc ?_ _) | (with_reducible refine Kd.C_drewN ?_ _) | (with_reducible refine Kd.C_drew ?_)))
                           (case aB => exact (by repeat (first | (with_reducible first | exact HB.out | apply below_alloc | apply pw_below_drewN | apply below_drew1) | exact HB.out)))
                           (case aF => exact (fun k_ hk => Kd.fresh' (Kd.R_lt (by (with_reducible repeat (first | apply Kd.R_alloc | apply Kd.R_drewN | apply Kd.R_drew)); exact HO_3.out)) k_ hk))
                           (case aO => exact (by (with_reducible repeat (first | apply Kd.R_alloc | apply Kd.R_drewN | apply Kd.R_drew)); exact HO180.out))
                           (case aS => exact (below_size (by repeat (first | (with_reducible first | exact HB.out | apply below_alloc | apply pw_below_drewN | apply below_drew1) | exact HB.out))))
                           (case aL => have := LMc19.out; omega)
                           intro v186 w160 ho hb hg hat
                           rw [← Ny185.out] at ho
                           have n0_ := Aside0.mk (Kd.R_after (ok := (fun _ => True)) (by (with_reducible repeat (first | apply Kd.R_alloc | apply Kd.R_drewN | apply Kd.R_drew)); exact HO_3.out) hg hat)
                           have n1_ := Aside0.mk (hb)
                           have n2_ := Aside0.mk ((show Kd.C (Kd.int .i64) w160 A155 y167.length y167 from by rw [Ny167.out, KA155.out]; exact Kd.C_mid (lo := 2) (hi := 4) (c := co7) ((Kd.R_reads' (Kd.R_after (ok := (fun _ => True)) (by (with_reducible repeat (first | apply Kd.R_alloc | apply Kd.R_drewN | apply Kd.R_drew)); exact HO_3.out) hg hat)).2.2) KM155.out KL155.out ((Kd.R_reads' (Kd.R_after (ok := (fun _ => True)) (by (with_reducible repeat (first | apply Kd.R_alloc | apply Kd.R_drewN | apply Kd.R_drew)); exact HO_3.out) hg hat)).2.1)))
                           have n3_ := Aside0.mk ((show Kd.C (Kd.int .i64) w160 Ao7 y174.length y174 from by rw [Ny174.out]; exact Kd.C_take (m := 2) ((Kd.R_reads' (Kd.R_after (ok := (fun _ => True)) (by (with_reducible repeat (first | apply Kd.R_alloc | apply Kd.R_drewN | apply Kd.R_drew)); exact HO_3.out) hg hat)).2.2) KL156.out))
                           have n4_ := Aside0.mk ((show Kd.C (Kd.int .i64) w160 A157 y181.length y181 from by rw [Ny181.out, KA157.out]; exact Kd.C_drop (m := 4) (c := co7) ((Kd.R_reads' (Kd.R_after (ok := (fun _ => True)) (by (with_reducible repeat (first | apply Kd.R_alloc | apply Kd.R_drewN | apply Kd.R_drew)); exact HO_3.out) hg hat)).2.2) KL157.out ((Kd.R_reads' (Kd.R_after (ok := (fun _ => True)) (by (with_reducible repeat (first | apply Kd.R_alloc | apply Kd.R_drewN | apply Kd.R_drew)); exact HO_3.out) hg hat)).2.1)))
                           have n5_ := Aside0.mk (ho)
                           clear HO_3
                           clear HB
                           clear HR170
                           clear HR177
                           clear HR184
                           clear HO180
                           have HO_3 := n0_
                           have HB := n1_
                           have HR170 := n2_
                           have HR177 := n3_
                           have HR184 := n4_
                           have HO187 := n5_
                           clear n0_ n1_ n2_ n3_ n4_ n5_
                           clear ho hb hg hat
                           refine hK.out _ _ trivial (fun hHeld => ?_)
                           clear hK K
                           refine norm_ (a' := ?_) ?_ ?_
                           rotate_left
                           · show Act.put _ (some 41) _ = _
                             simp only [Act.put, List.setIfInBounds_toArray, List.set_cons_zero, List.set_cons_succ, i64_w, i32_w]
                             rfl
                           refine pure_ (i := 10) (N := some 6) (v := ?_) (a' := ?_) #[true, true, true, true, true, true, true, true, true, true, true] rfl rfl (any_of HT_.out (by kernel_rfl)) (fun _ _ _ h => h) (Or.inl ⟨by rfl, ?_⟩) ?_ ?_
                           rotate_left
                           · intro w'
                             go_simp
                             with_reducible rfl
                           rotate_left
                           · simp only [Act.put, List.setIfInBounds_toArray, List.set_cons_zero, List.set_cons_succ, i64_w, i32_w]
                             rfl
                           refine done_ (done_of HT_.out (by kernel_rfl)) ?_
                           go_upto_region 12 with (first | ((with_reducible refine gate_dst (N := 42) rfl ?_); refine Kd.R_lit (Kd.int .i64) _ 3 ?hg (N := 42) ?hd (xs := ([] : List Int)) (inner := []) (ok := fun _ => True) (okp := fun _ => True) ?hr ?hp (fun _ hk => hk) trivial (Below.refl _ _) (Nat.le_refl _) (by simp) ?_; (case hd => rfl); (case hg => rfl); (case hr => first | (go_simp; done) | (go_simp; rfl)); (case hp => exact (Reps.none _ _)); intro v189 w161 ho162 hb hg_ hnew_; clear hg_ hnew_; (first | rw [← Ny188.out] at ho162 | (simp only [Int.reduceToNat] at ho162; rw [← Ny188.out] at ho162)); have n0_ := Aside0.mk (Kd.R_elder' (by (with_reducible repeat (first | apply Kd.R_alloc | apply Kd.R_drewN | apply Kd.R_drew)); exact HO_3.out) (Kd.R_base ho162) hb); have n1_ := Aside0.mk (Kd.R_elder' (by (with_reducible repeat (first | apply Kd.R_alloc | apply Kd.R_drewN | apply Kd.R_drew)); exact HO187.out) (Kd.R_base ho162) hb); have n2_ := Aside0.mk (Kd.R_lower (Kd.R_new' (Kd.R_new' ho162 (Kd.R_lt (by (with_reducible repeat (first | apply Kd.R_alloc | apply Kd.R_drewN | apply Kd.R_drew)); exact HO_3.out))) (Kd.R_lt (by (with_reducible repeat (first | apply Kd.R_alloc | apply Kd.R_drewN | apply Kd.R_drew)); exact HO187.out))) (below_size (by repeat (first | (with_reducible first | exact HB.out | apply below_alloc | apply pw_below_drewN | apply below_drew1) | exact HB.out)))); have n3_ := Aside0.mk (Kd.C_below (by repeat (first | (with_reducible exact HR170.out) | (with_reducible refine Kd.C_alloc ?_ _) | (with_reducible refine Kd.C_drewN ?_ _) | (with_reducible refine Kd.C_drew ?_) | exact HR170.out)) hb); have n4_ := Aside0.mk (Kd.C_below (by repeat (first | (with_reducible exact HR177.out) | (with_reducible refine Kd.C_alloc ?_ _) | (with_reducible refine Kd.C_drewN ?_ _) | (with_reducible refine Kd.C_drew ?_) | exact HR177.out)) hb); have n5_ := Aside0.mk (Kd.C_below (by repeat (first | (with_reducible exact HR184.out) | (with_reducible refine Kd.C_alloc ?_ _) | (with_reducible refine Kd.C_drewN ?_ _) | (with_reducible refine Kd.C_drew ?_) | exact HR184.out)) hb); have n6_ := Aside0.mk (below_step (by repeat (first | (with_reducible first | exact HB.out | apply below_alloc | apply pw_below_drewN | apply below_drew1) | exact HB.out)) hb); clear HO_3; clear HO187; clear HR170; clear HR177; clear HR184; clear HB; have HO_3 := n0_; have HO187 := n1_; have HO190 := n2_; have HR170 := n3_; have HR177 := n4_; have HR184 := n5_; have HB := n6_; clear n0_ n1_ n2_ n3_ n4_ n5_ n6_; clear hb ho162) | ((with_reducible refine gate_builtin (b := .append) (xs := #[.tmp 42, .tmp 43]) rfl ?_); at_builtin; refine Kd.R_append_rows (Kd.int .i64) (w0 := w) w.heap.size rfl (.tmp 42) (.tmp 43) 22 3 (.int .i64 0) 8 rfl Try.underlying22 info3 rfl (by decide) (by omega) v189 y188 t158 _ _ _ (fun k_ => some k_ ≠ (.slice Ao7 t158.length co7 : Value).ownBlock ∧ some k_ ≠ (v186 : Value).ownBlock) (fun _ => False) rfl rfl ?aO ?aR (fun _ _ h => h) (fun _ h => h.elim) ?aF ?aB ?aS ?aL ?_; (case aR => repeat (first | exact (Kd.R_reads' HO_3.out).2.2 | (with_reducible refine Kd.C_alloc ?_ _) | (with_reducible refine Kd.C_drewN ?_ _) | (with_reducible refine Kd.C_drew ?_))); (case aB => exact (by repeat (first | (with_reducible first | exact HB.out | apply below_alloc | apply pw_below_drewN | apply below_drew1) | exact HB.out))); (case aF => exact (fun k_ hk => ⟨Kd.fresh' (Kd.R_lt (by (with_reducible repeat (first | apply Kd.R_alloc | apply Kd.R_drewN | apply Kd.R_drew)); exact HO_3.out)) k_ hk, Kd.fresh' (Kd.R_lt (by (with_reducible repeat (first | apply Kd.R_alloc | apply Kd.R_drewN | apply Kd.R_drew)); exact HO187.out)) k_ hk⟩)); (case aO => exact (by (with_reducible repeat (first | apply Kd.R_alloc | apply Kd.R_drewN | apply Kd.R_drew)); exact Kd.R_mono HO190.out (fun _ hk => ⟨hk.1.2, hk.2⟩))); (case aS => exact (below_size (by repeat (first | (with_reducible first | exact HB.out | apply below_alloc | apply pw_below_drewN | apply below_drew1) | exact HB.out)))); (case aL => have := LMc20.out; omega); intro v192 w163 ho hb hg hat; rw [← Ny191.out] at ho; have n0_ := Aside0.mk (Kd.R_after (ok := (fun k_ => some k_ ≠ (v186 : Value).ownBlock)) (by (with_reducible repeat (first | apply Kd.R_alloc | apply Kd.R_drewN | apply Kd.R_drew)); exact Kd.R_mono HO_3.out (fun _ hk => ⟨hk.1.2, hk.2⟩)) hg hat); have n1_ := Aside0.mk (Kd.R_after (ok := (fun k_ => some k_ ≠ (.slice Ao7 t158.length co7 : Value).ownBlock)) (by (with_reducible repeat (first | apply Kd.R_alloc | apply Kd.R_drewN | apply Kd.R_drew)); exact HO187.out) hg hat); have n2_ := Aside0.mk (hb); have n3_ := Aside0.mk ((show Kd.C (Kd.int .i64) w163 A155 y167.length y167 from by rw [Ny167.out, KA155.out]; exact Kd.C_mid (lo := 2) (hi := 4) (c := co7) ((Kd.R_reads' (Kd.R_after (ok := (fun k_ => some k_ ≠ (v186 : Value).ownBlock)) (by (with_reducible repeat (first | apply Kd.R_alloc | apply Kd.R_drewN | apply Kd.R_drew)); exact Kd.R_mono HO_3.out (fun _ hk => ⟨hk.1.2, hk.2⟩)) hg hat)).2.2) KM155.out KL155.out ((Kd.R_reads' (Kd.R_after (ok := (fun k_ => some k_ ≠ (v186 : Value).ownBlock)) (by (with_reducible repeat (first | apply Kd.R_alloc | apply Kd.R_drewN | apply Kd.R_drew)); exact Kd.R_mono HO_3.out (fun _ hk => ⟨hk.1.2, hk.2⟩)) hg hat)).2.1))); have n4_ := Aside0.mk ((show Kd.C (Kd.int .i64) w163 Ao7 y174.length y174 from by rw [Ny174.out]; exact Kd.C_take (m := 2) ((Kd.R_reads' (Kd.R_after (ok := (fun k_ => some k_ ≠ (v186 : Value).ownBlock)) (by (with_reducible repeat (first | apply Kd.R_alloc | apply Kd.R_drewN | apply Kd.R_drew)); exact Kd.R_mono HO_3.out (fun _ hk => ⟨hk.1.2, hk.2⟩)) hg hat)).2.2) KL156.out)); have n5_ := Aside0.mk ((show Kd.C (Kd.int .i64) w163 A157 y181.length y181 from by rw [Ny181.out, KA157.out]; exact Kd.C_drop (m := 4) (c := co7) ((Kd.R_reads' (Kd.R_after (ok := (fun k_ => some k_ ≠ (v186 : Value).ownBlock)) (by (with_reducible repeat (first | apply Kd.R_alloc | apply Kd.R_drewN | apply Kd.R_drew)); exact Kd.R_mono HO_3.out (fun _ hk => ⟨hk.1.2, hk.2⟩)) hg hat)).2.2) KL157.out ((Kd.R_reads' (Kd.R_after (ok := (fun k_ => some k_ ≠ (v186 : Value).ownBlock)) (by (with_reducible repeat (first | apply Kd.R_alloc | apply Kd.R_drewN | apply Kd.R_drew)); exact Kd.R_mono HO_3.out (fun _ hk => ⟨hk.1.2, hk.2⟩)) hg hat)).2.1))); have n6_ := Aside0.mk (ho); clear HO_3; clear HO187; clear HB; clear HR170; clear HR177; clear HR184; clear HO190; have HO_3 := n0_; have HO187 := n1_; have HB := n2_; have HR170 := n3_; have HR177 := n4_; have HR184 := n5_; have HO193 := n6_; clear n0_ n1_ n2_ n3_ n4_ n5_ n6_; clear ho hb hg hat) | ((with_reducible refine gate_dst (N := 49) rfl ?_); refine Kd.R_lit (Kd.int .i64) _ 3 ?hg (N := 49) ?hd (xs := ([wrap64 (Int.tdiv t161 256), Int.tmod t161 256] : List Int)) (inner := [.int .i64 (wrap64 (Int.tdiv t161 256)), .int .i64 (Int.tmod t161 256)]) (ok := fun _ => True) (okp := fun _ => True) ?hr ?hp (fun _ hk => hk) trivial (Below.refl _ _) (Nat.le_refl _) (by simp) ?_; (case hd => rfl); (case hg => rfl); (case hr => first | (go_simp; done) | (go_simp; rfl)); (case hp => exact (Reps.one (show Kd.M (Kd.int .i64) _ _ _ (wrap64 (Int.tdiv t161 256)) [.int .i64 (wrap64 (Int.tdiv t161 256))] from rfl) (Reps.one (show Kd.M (Kd.int .i64) _ _ _ (Int.tmod t161 256) [.int .i64 (Int.tmod t161 256)] from rfl) (Reps.none _ _)))); intro v195 w164 ho165 hb hg_ hnew_; clear hg_ hnew_; (first | rw [← Ny194.out] at ho165 | (simp only [Int.reduceToNat] at ho165; rw [← Ny194.out] at ho165)); have n0_ := Aside0.mk (Kd.R_elder' (by (with_reducible repeat (first | apply Kd.R_alloc | apply Kd.R_drewN | apply Kd.R_drew)); exact HO_3.out) (Kd.R_base ho165) hb); have n1_ := Aside0.mk (Kd.R_elder' (by (with_reducible repeat (first | apply Kd.R_alloc | apply Kd.R_drewN | apply Kd.R_drew)); exact HO187.out) (Kd.R_base ho165) hb); have n2_ := Aside0.mk (Kd.R_elder' (by (with_reducible repeat (first | apply Kd.R_alloc | apply Kd.R_drewN | apply Kd.R_drew)); exact HO193.out) (Kd.R_base ho165) hb); have n3_ := Aside0.mk (Kd.R_lower (Kd.R_new' (Kd.R_new' (Kd.R_new' ho165 (Kd.R_lt (by (with_reducible repeat (first | apply Kd.R_alloc | apply Kd.R_drewN | apply Kd.R_drew)); exact HO_3.out))) (Kd.R_lt (by (with_reducible repeat (first | apply Kd.R_alloc | apply Kd.R_drewN | apply Kd.R_drew)); exact HO187.out))) (Kd.R_lt (by (with_reducible repeat (first | apply Kd.R_alloc | apply Kd.R_drewN | apply Kd.R_drew)); exact HO193.out))) (below_size (by repeat (first | (with_reducible first | exact HB.out | apply below_alloc | apply pw_below_drewN | apply below_drew1) | exact HB.out)))); have n4_ := Aside0.mk (Kd.C_below (by repeat (first | (with_reducible exact HR170.out) | (with_reducible refine Kd.C_alloc ?_ _) | (with_reducible refine Kd.C_drewN ?_ _) | (with_reducible refine Kd.C_drew ?_) | exact HR170.out)) hb); have n5_ := Aside0.mk (Kd.C_below (by repeat (first | (with_reducible exact HR177.out) | (with_reducible refine Kd.C_alloc ?_ _) | (with_reducible refine Kd.C_drewN ?_ _) | (with_reducible refine Kd.C_drew ?_) | exact HR177.out)) hb); have n6_ := Aside0.mk (Kd.C_below (by repeat (first | (with_reducible exact HR184.out) | (with_reducible refine Kd.C_alloc ?_ _) | (with_reducible refine Kd.C_drewN ?_ _) | (with_reducible refine Kd.C_drew ?_) | exact HR184.out)) hb); have n7_ := Aside0.mk (below_step (by repeat (first | (with_reducible first | exact HB.out | apply below_alloc | apply pw_below_drewN | apply below_drew1) | exact HB.out)) hb); clear HO_3; clear HO187; clear HO193; clear HR170; clear HR177; clear HR184; clear HB; have HO_3 := n0_; have HO187 := n1_; have HO193 := n2_; have HO196 := n3_; have HR170 := n4_; have HR177 := n5_; have HR184 := n6_; have HB := n7_; clear n0_ n1_ n2_ n3_ n4_ n5_ n6_ n7_; clear hb ho165; obtain ⟨Ao167, co167, eo167⟩ := Kd.R_slice HO196.out; subst eo167) | ((with_reducible refine gate_builtin (b := .append) (xs := #[.tmp 44, .tmp 49]) rfl ?_); at_builtin; refine Kd.R_append_rows (Kd.int .i64) (w0 := w) w.heap.size rfl (.tmp 44) (.tmp 49) 22 3 (.int .i64 0) 8 rfl Try.underlying22 info3 rfl (by decide) (by omega) v192 y191 y194 _ _ _ (fun k_ => some k_ ≠ (.slice Ao7 t158.length co7 : Value).ownBlock ∧ some k_ ≠ (v186 : Value).ownBlock ∧ some k_ ≠ (.slice Ao167 y194.length co167 : Value).ownBlock) (fun _ => False) rfl rfl ?aO ?aR (fun _ _ h => h) (fun _ h => h.elim) ?aF ?aB ?aS ?aL ?_; (case aR => repeat (first | exact (Kd.R_reads' HO196.out).2.2 | (with_reducible refine Kd.C_alloc ?_ _) | (with_reducible refine Kd.C_drewN ?_ _) | (with_reducible refine Kd.C_drew ?_))); (case aB => exact (by repeat (first | (with_reducible first | exact HB.out | apply below_alloc | apply pw_below_drewN | apply below_drew1) | exact HB.out))); (case aF => exact (fun k_ hk => ⟨Kd.fresh' (Kd.R_lt (by (with_reducible repeat (first | apply Kd.R_alloc | apply Kd.R_drewN | apply Kd.R_drew)); exact HO_3.out)) k_ hk, Kd.fresh' (Kd.R_lt (by (with_reducible repeat (first | apply Kd.R_alloc | apply Kd.R_drewN | apply Kd.R_drew)); exact HO187.out)) k_ hk, Kd.fresh' (Kd.R_lt (by (with_reducible repeat (first | apply Kd.R_alloc | apply Kd.R_drewN | apply Kd.R_drew)); exact HO196.out)) k_ hk⟩)); (case aO => exact (by (with_reducible repeat (first | apply Kd.R_alloc | apply Kd.R_drewN | apply Kd.R_drew)); exact Kd.R_mono HO193.out (fun _ hk => ⟨hk.1.1, ⟨hk.1.2, hk.2⟩⟩))); (case aS => exact (below_size (by repeat (first | (with_reducible first | exact HB.out | apply below_alloc | apply pw_below_drewN | apply below_drew1) | exact HB.out)))); (case aL => have := LMc21.out; omega); intro v198 w166 ho hb hg hat; rw [← Ny197.out] at ho; have n0_ := Aside0.mk (Kd.R_after (ok := (fun k_ => some k_ ≠ (v186 : Value).ownBlock ∧ some k_ ≠ (.slice Ao167 y194.length co167 : Value).ownBlock)) (by (with_reducible repeat (first | apply Kd.R_alloc | apply Kd.R_drewN | apply Kd.R_drew)); exact Kd.R_mono HO_3.out (fun _ hk => ⟨⟨hk.1.1, hk.2⟩, hk.1.2⟩)) hg hat); have n1_ := Aside0.mk (Kd.R_after (ok := (fun k_ => some k_ ≠ (.slice Ao7 t158.length co7 : Value).ownBlock ∧ some k_ ≠ (.slice Ao167 y194.length co167 : Value).ownBlock)) (by (with_reducible repeat (first | apply Kd.R_alloc | apply Kd.R_drewN | apply Kd.R_drew)); exact Kd.R_mono HO187.out (fun _ hk => ⟨⟨hk.1.1, hk.2⟩, hk.1.2⟩)) hg hat); have n2_ := Aside0.mk (Kd.R_after (ok := (fun k_ => some k_ ≠ (.slice Ao7 t158.length co7 : Value).ownBlock ∧ some k_ ≠ (v186 : Value).ownBlock)) (by (with_reducible repeat (first | apply Kd.R_alloc | apply Kd.R_drewN | apply Kd.R_drew)); exact Kd.R_mono HO196.out (fun _ hk => ⟨⟨hk.1.1.2, hk.1.2⟩, hk.2⟩)) hg hat); have n3_ := Aside0.mk (hb); have n4_ := Aside0.mk ((show Kd.C (Kd.int .i64) w166 A155 y167.length y167 from by rw [Ny167.out, KA155.out]; exact Kd.C_mid (lo := 2) (hi := 4) (c := co7) ((Kd.R_reads' (Kd.R_after (ok := (fun k_ => some k_ ≠ (v186 : Value).ownBlock ∧ some k_ ≠ (.slice Ao167 y194.length co167 : Value).ownBlock)) (by (with_reducible repeat (first | apply Kd.R_alloc | apply Kd.R_drewN | apply Kd.R_drew)); exact Kd.R_mono HO_3.out (fun _ hk => ⟨⟨hk.1.1, hk.2⟩, hk.1.2⟩)) hg hat)).2.2) KM155.out KL155.out ((Kd.R_reads' (Kd.R_after (ok := (fun k_ => some k_ ≠ (v186 : Value).ownBlock ∧ some k_ ≠ (.slice Ao167 y194.length co167 : Value).ownBlock)) (by (with_reducible repeat (first | apply Kd.R_alloc | apply Kd.R_drewN | apply Kd.R_drew)); exact Kd.R_mono HO_3.out (fun _ hk => ⟨⟨hk.1.1, hk.2⟩, hk.1.2⟩)) hg hat)).2.1))); have n5_ := Aside0.mk ((show Kd.C (Kd.int .i64) w166 Ao7 y174.length y174 from by rw [Ny174.out]; exact Kd.C_take (m := 2) ((Kd.R_reads' (Kd.R_after (ok := (fun k_ => some k_ ≠ (v186 : Value).ownBlock ∧ some k_ ≠ (.slice Ao167 y194.length co167 : Value).ownBlock)) (by (with_reducible repeat (first | apply Kd.R_alloc | apply Kd.R_drewN | apply Kd.R_drew)); exact Kd.R_mono HO_3.out (fun _ hk => ⟨⟨hk.1.1, hk.2⟩, hk.1.2⟩)) hg hat)).2.2) KL156.out)); have n6_ := Aside0.mk ((show Kd.C (Kd.int .i64) w166 A157 y181.length y181 from by rw [Ny181.out, KA157.out]; exact Kd.C_drop (m := 4) (c := co7) ((Kd.R_reads' (Kd.R_after (ok := (fun k_ => some k_ ≠ (v186 : Value).ownBlock ∧ some k_ ≠ (.slice Ao167 y194.length co167 : Value).ownBlock)) (by (with_reducible repeat (first | apply Kd.R_alloc | apply Kd.R_drewN | apply Kd.R_drew)); exact Kd.R_mono HO_3.out (fun _ hk => ⟨⟨hk.1.1, hk.2⟩, hk.1.2⟩)) hg hat)).2.2) KL157.out ((Kd.R_reads' (Kd.R_after (ok := (fun k_ => some k_ ≠ (v186 : Value).ownBlock ∧ some k_ ≠ (.slice Ao167 y194.length co167 : Value).ownBlock)) (by (with_reducible repeat (first | apply Kd.R_alloc | apply Kd.R_drewN | apply Kd.R_drew)); exact Kd.R_mono HO_3.out (fun _ hk => ⟨⟨hk.1.1, hk.2⟩, hk.1.2⟩)) hg hat)).2.1))); have n7_ := Aside0.mk (ho); clear HO_3; clear HO187; clear HO196; clear HB; clear HR170; clear HR177; clear HR184; clear HO193; have HO_3 := n0_; have HO187 := n1_; have HO196 := n2_; have HB := n3_; have HR170 := n4_; have HR177 := n5_; have HR184 := n6_; have HO199 := n7_; clear n0_ n1_ n2_ n3_ n4_ n5_ n6_ n7_; clear ho hb hg hat; obtain ⟨Ao168, co168, eo168⟩ := Kd.R_slice HO199.out; subst eo168))
                           by_cases c22 : ((t158.length : Int) % 2) = 1
                           · rw [if_pos c22] at H
                             have c22b0 : (((t158.length : Int) % 2) == 1) = true := beq_iff_eq.mpr c22
                             have c22b1 : (((t158.length : Int) % 2) != 1) = false := bne_eq_false_iff_eq.mpr c22
                             clear c22
                             by_cases c23 : (t158.length : Int) < 4
                             · rw [if_pos c23] at H
                               have c23b0 : decide ((t158.length : Int) < 4) = true := decide_eq_true c23
                               have c23b1 : decide (t158.length < 4) = true := decide_eq_true (by omega)
                               clear c23
                               obtain rfl := Option.some.inj H
                               try go_wp2
                               go_ret
                               exact ⟨by first | rfl | (simp [errW_none, errW_some] <;> rfl) | (simp [*, errW_none, errW_some] <;> rfl), by repeat (first | (with_reducible first | exact HB.out | apply below_alloc | apply pw_below_drewN | apply below_drew1) | exact HB.out)⟩
                             · rw [if_neg c23] at H
                               have c23b0 : decide ((t158.length : Int) < 4) = false := decide_eq_false c23
                               have c23b1 : decide (t158.length < 4) = false := decide_eq_false (by omega)
                               clear c23
                               replace H := Option.bind_eq_some_iff.mp H
                               obtain ⟨t200, A400, H⟩ := H
                               replace H : (if t200 = t161 then (some (decide (t161 ≤ 65535))) else (some false)) = some r := H
                               have A40 := Aside0.mk A400
                               clear A400
                               by_cases c41 : t200 = t161
                               · rw [if_pos c41] at H
                                 have c41b0 : (t200 == t161) = true := beq_iff_eq.mpr c41
                                 have c41b1 : (t200 != t161) = false := bne_eq_false_iff_eq.mpr c41
                                 clear c41
                                 obtain rfl := Option.some.inj H
                                 obtain ⟨Aoz, coz, eoz⟩ := Kd.R_slice HO187.out
                                 subst eoz
                                 try go_wp2_with ((go_at_call 18; (with_reducible refine (impl_SumBytes.calls kj4 _ _ y185 t200 _ ?side1 ?side2 A40.out).mono ?_); (case side1 => repeat (first | exact (Kd.R_reads' HO187.out).2.2 | (with_reducible refine Kd.C_alloc ?_ _) | (with_reducible refine Kd.C_drewN ?_ _) | (with_reducible refine Kd.C_drew ?_))); (case side2 => exact (Kd.R_reads' HO187.out).2.1); rintro e w' ⟨rfl, ⟨nd, rfl⟩⟩))
                                 go_ret
                                 exact ⟨by first | rfl | (simp [errW_none, errW_some] <;> rfl) | (simp [*, errW_none, errW_some] <;> rfl), by repeat (first | (with_reducible first | exact HB.out | apply below_alloc | apply pw_below_drewN | apply below_drew1) | exact HB.out)⟩
                               · rw [if_neg c41] at H
                                 have c41b0 : (t200 == t161) = false := beq_eq_false_iff_ne.mpr c41
                                 have c41b1 : (t200 != t161) = true := bne_iff_ne.mpr c41
                                 obtain rfl := Option.some.inj H
                                 obtain ⟨Aoz, coz, eoz⟩ := Kd.R_slice HO187.out
                                 subst eoz
                                 try go_wp2_with ((go_at_call 18; (with_reducible refine (impl_SumBytes.calls kj4 _ _ y185 t200 _ ?side1 ?side2 A40.out).mono ?_); (case side1 => repeat (first | exact (Kd.R_reads' HO187.out).2.2 | (with_reducible refine Kd.C_alloc ?_ _) | (with_reducible refine Kd.C_drewN ?_ _) | (with_reducible refine Kd.C_drew ?_))); (case side2 => exact (Kd.R_reads' HO187.out).2.1); rintro e w' ⟨rfl, ⟨nd, rfl⟩⟩))
                                 go_ret
                                 exact ⟨by first | rfl | (simp [errW_none, errW_some] <;> rfl) | (simp [*, errW_none, errW_some] <;> rfl), by repeat (first | (with_reducible first | exact HB.out | apply below_alloc | apply pw_below_drewN | apply below_drew1) | exact HB.out)⟩
                           · rw [if_neg c22] at H
                             have c22b0 : (((t158.length : Int) % 2) == 1) = false := beq_eq_false_iff_ne.mpr c22
                             have c22b1 : (((t158.length : Int) % 2) != 1) = true := bne_iff_ne.mpr c22
                             by_cases c76 : (wrap64 ((t158.length : Int) + 2)) > 16
                             · rw [if_pos c76] at H
                               have c76b0 : decide (16 < (wrap64 ((t158.length : Int) + 2))) = true := decide_eq_true c76
                               clear c76
                               by_cases c77 : (t158.length : Int) < 4
                               · rw [if_pos c77] at H
                                 have c77b0 : decide ((t158.length : Int) < 4) = true := decide_eq_true c77
                                 have c77b1 : decide (t158.length < 4) = true := decide_eq_true (by omega)
                                 clear c77
                                 obtain rfl := Option.some.inj H
                                 try go_wp2
                                 go_ret
                                 exact ⟨by first | rfl | (simp [errW_none, errW_some] <;> rfl) | (simp [*, errW_none, errW_some] <;> rfl), by repeat (first | (with_reducible first | exact HB.out | apply below_alloc | apply pw_below_drewN | apply below_drew1) | exact HB.out)⟩
                               · rw [if_neg c77] at H
                                 have c77b0 : decide ((t158.length : Int) < 4) = false := decide_eq_false c77
                                 have c77b1 : decide (t158.length < 4) = false := decide_eq_false (by omega)
                                 clear c77
                                 replace H := Option.bind_eq_some_iff.mp H
                                 obtain ⟨t201, A940, H⟩ := H
                                 replace H : (if t201 = t161 then (some (decide (t161 ≤ 65535))) else (some false)) = some r := H
                                 have A94 := Aside0.mk A940
                                 clear A940
                                 by_cases c95 : t201 = t161
                                 · rw [if_pos c95] at H
                                   have c95b0 : (t201 == t161) = true := beq_iff_eq.mpr c95
                                   have c95b1 : (t201 != t161) = false := bne_eq_false_iff_eq.mpr c95
                                   clear c95
                                   obtain rfl := Option.some.inj H
                                   obtain ⟨Aoz, coz, eoz⟩ := Kd.R_slice HO187.out
                                   subst eoz
                                   try go_wp2_with ((go_at_call 18; (with_reducible refine (impl_SumBytes.calls kj4 _ _ y185 t201 _ ?side1 ?side2 A94.out).mono ?_); (case side1 => repeat (first | exact (Kd.R_reads' HO187.out).2.2 | (with_reducible refine Kd.C_alloc ?_ _) | (with_reducible refine Kd.C_drewN ?_ _) | (with_reducible refine Kd.C_drew ?_))); (case side2 => exact (Kd.R_reads' HO187.out).2.1); rintro e w' ⟨rfl, ⟨nd, rfl⟩⟩))
                                   go_ret
                                   exact ⟨by first | rfl | (simp [errW_none, errW_some] <;> rfl) | (simp [*, errW_none, errW_some] <;> rfl), by repeat (first | (with_reducible first | exact HB.out | apply below_alloc | apply pw_below_drewN | apply below_drew1) | exact HB.out)⟩
                                 · rw [if_neg c95] at H
                                   have c95b0 : (t201 == t161) = false := beq_eq_false_iff_ne.mpr c95
                                   have c95b1 : (t201 != t161) = true := bne_iff_ne.mpr c95
                                   obtain rfl := Option.some.inj H
                                   obtain ⟨Aoz, coz, eoz⟩ := Kd.R_slice HO187.out
                                   subst eoz
                                   try go_wp2_with ((go_at_call 18; (with_reducible refine (impl_SumBytes.calls kj4 _ _ y185 t201 _ ?side1 ?side2 A94.out).mono ?_); (case side1 => repeat (first | exact (Kd.R_reads' HO187.out).2.2 | (with_reducible refine Kd.C_alloc ?_ _) | (with_reducible refine Kd.C_drewN ?_ _) | (with_reducible refine Kd.C_drew ?_))); (case side2 => exact (Kd.R_reads' HO187.out).2.1); rintro e w' ⟨rfl, ⟨nd, rfl⟩⟩))
                                   go_ret
                                   exact ⟨by first | rfl | (simp [errW_none, errW_some] <;> rfl) | (simp [*, errW_none, errW_some] <;> rfl), by repeat (first | (with_reducible first | exact HB.out | apply below_alloc | apply pw_below_drewN | apply below_drew1) | exact HB.out)⟩
                             · rw [if_neg c76] at H
                               have c76b0 : decide (16 < (wrap64 ((t158.length : Int) + 2))) = false := decide_eq_false c76
                               clear c76
                               replace H := Option.bind_eq_some_iff.mp H
                               obtain ⟨t202, A1300, H⟩ := H
                               replace H : (if t202 = 0 then (if (t158.length : Int) < 4 then (some (decide (t161 ≤ 65535))) else ((impl_SumBytes.f kj4 y185).bind fun t203 => (if t203 = t161 then (some (decide (t161 ≤ 65535))) else (some false)))) else (some false)) = some r := H
                               have A130 := Aside0.mk A1300
                               clear A1300
                               by_cases c131 : t202 = 0
                               · rw [if_pos c131] at H
                                 have c131b0 : (t202 == 0) = true := beq_iff_eq.mpr c131
                                 have c131b1 : (t202 != 0) = false := bne_eq_false_iff_eq.mpr c131
                                 clear c131
                                 by_cases c132 : (t158.length : Int) < 4
                                 · rw [if_pos c132] at H
                                   have c132b0 : decide ((t158.length : Int) < 4) = true := decide_eq_true c132
                                   have c132b1 : decide (t158.length < 4) = true := decide_eq_true (by omega)
                                   clear c132
                                   obtain rfl := Option.some.inj H
                                   try go_wp2_with ((go_at_call 18; (with_reducible refine (impl_SumBytes.calls kj4 _ _ y197 t202 _ ?side1 ?side2 A130.out).mono ?_); (case side1 => repeat (first | exact (Kd.R_reads' HO199.out).2.2 | (with_reducible refine Kd.C_alloc ?_ _) | (with_reducible refine Kd.C_drewN ?_ _) | (with_reducible refine Kd.C_drew ?_))); (case side2 => exact (Kd.R_reads' HO199.out).2.1); rintro e w' ⟨rfl, ⟨nd, rfl⟩⟩))
                                   go_ret
                                   exact ⟨by first | rfl | (simp [errW_none, errW_some] <;> rfl) | (simp [*, errW_none, errW_some] <;> rfl), by repeat (first | (with_reducible first | exact HB.out | apply below_alloc | apply pw_below_drewN | apply below_drew1) | exact HB.out)⟩
                                 · rw [if_neg c132] at H
                                   have c132b0 : decide ((t158.length : Int) < 4) = false := decide_eq_false c132
                                   have c132b1 : decide (t158.length < 4) = false := decide_eq_false (by omega)
                                   clear c132
                                   replace H := Option.bind_eq_some_iff.mp H
                                   obtain ⟨t203, A1500, H⟩ := H
                                   replace H : (if t203 = t161 then (some (decide (t161 ≤ 65535))) else (some false)) = some r := H
                                   have A150 := Aside0.mk A1500
                                   clear A1500
                                   by_cases c151 : t203 = t161
                                   · rw [if_pos c151] at H
                                     have c151b0 : (t203 == t161) = true := beq_iff_eq.mpr c151
                                     have c151b1 : (t203 != t161) = false := bne_eq_false_iff_eq.mpr c151
                                     clear c151
                                     obtain rfl := Option.some.inj H
                                     try go_wp2_with (first | (go_at_call 18; (with_reducible refine (impl_SumBytes.calls kj4 _ _ y197 t202 _ ?side1 ?side2 A130.out).mono ?_); (case side1 => repeat (first | exact (Kd.R_reads' HO199.out).2.2 | (with_reducible refine Kd.C_alloc ?_ _) | (with_reducible refine Kd.C_drewN ?_ _) | (with_reducible refine Kd.C_drew ?_))); (case side2 => exact (Kd.R_reads' HO199.out).2.1); rintro e w' ⟨rfl, ⟨nd, rfl⟩⟩; obtain ⟨Ao169, co169, eo169⟩ := Kd.R_slice HO187.out; subst eo169) | (go_at_call 18; (with_reducible refine (impl_SumBytes.calls kj4 _ _ y185 t203 _ ?side1 ?side2 A150.out).mono ?_); (case side1 => repeat (first | exact (Kd.R_reads' HO187.out).2.2 | (with_reducible refine Kd.C_alloc ?_ _) | (with_reducible refine Kd.C_drewN ?_ _) | (with_reducible refine Kd.C_drew ?_))); (case side2 => exact (Kd.R_reads' HO187.out).2.1); rintro e w' ⟨rfl, ⟨nd, rfl⟩⟩))
                                     go_ret
                                     exact ⟨by first | rfl | (simp [errW_none, errW_some] <;> rfl) | (simp [*, errW_none, errW_some] <;> rfl), by repeat (first | (with_reducible first | exact HB.out | apply below_alloc | apply pw_below_drewN | apply below_drew1) | exact HB.out)⟩
                                   · rw [if_neg c151] at H
                                     have c151b0 : (t203 == t161) = false := beq_eq_false_iff_ne.mpr c151
                                     have c151b1 : (t203 != t161) = true := bne_iff_ne.mpr c151
                                     obtain rfl := Option.some.inj H
                                     try go_wp2_with (first | (go_at_call 18; (with_reducible refine (impl_SumBytes.calls kj4 _ _ y197 t202 _ ?side1 ?side2 A130.out).mono ?_); (case side1 => repeat (first | exact (Kd.R_reads' HO199.out).2.2 | (with_reducible refine Kd.C_alloc ?_ _) | (with_reducible refine Kd.C_drewN ?_ _) | (with_reducible refine Kd.C_drew ?_))); (case side2 => exact (Kd.R_reads' HO199.out).2.1); rintro e w' ⟨rfl, ⟨nd, rfl⟩⟩; obtain ⟨Ao187, co187, eo187⟩ := Kd.R_slice HO187.out; subst eo187) | (go_at_call 18; (with_reducible refine (impl_SumBytes.calls kj4 _ _ y185 t203 _ ?side1 ?side2 A150.out).mono ?_); (case side1 => repeat (first | exact (Kd.R_reads' HO187.out).2.2 | (with_reducible refine Kd.C_alloc ?_ _) | (with_reducible refine Kd.C_drewN ?_ _) | (with_reducible refine Kd.C_drew ?_))); (case side2 => exact (Kd.R_reads' HO187.out).2.1); rintro e w' ⟨rfl, ⟨nd, rfl⟩⟩))
                                     go_ret
                                     exact ⟨by first | rfl | (simp [errW_none, errW_some] <;> rfl) | (simp [*, errW_none, errW_some] <;> rfl), by repeat (first | (with_reducible first | exact HB.out | apply below_alloc | apply pw_below_drewN | apply below_drew1) | exact HB.out)⟩
                               · rw [if_neg c131] at H
                                 have c131b0 : (t202 == 0) = false := beq_eq_false_iff_ne.mpr c131
                                 have c131b1 : (t202 != 0) = true := bne_iff_ne.mpr c131
                                 obtain rfl := Option.some.inj H
                                 try go_wp2_with ((go_at_call 18; (with_reducible refine (impl_SumBytes.calls kj4 _ _ y197 t202 _ ?side1 ?side2 A130.out).mono ?_); (case side1 => repeat (first | exact (Kd.R_reads' HO199.out).2.2 | (with_reducible refine Kd.C_alloc ?_ _) | (with_reducible refine Kd.C_drewN ?_ _) | (with_reducible refine Kd.C_drew ?_))); (case side2 => exact (Kd.R_reads' HO199.out).2.1); rintro e w' ⟨rfl, ⟨nd, rfl⟩⟩))
                                 go_ret
                                 exact ⟨by first | rfl | (simp [errW_none, errW_some] <;> rfl) | (simp [*, errW_none, errW_some] <;> rfl), by repeat (first | (with_reducible first | exact HB.out | apply below_alloc | apply pw_below_drewN | apply below_drew1) | exact HB.out)⟩
                         · rw [if_neg c21] at H
                           exact absurd H (by simp)
                       · rw [if_neg c20] at H
                         exact absurd H (by simp)
                     · rw [if_neg c19] at H
                       exact absurd H (by simp)
                   · rw [if_neg c17] at H
                     exact absurd H (by simp)
                 · rw [if_neg c16] at H
                   exact absurd H (by simp)
               · rw [if_neg c15] at H
                 exact absurd H (by simp)
             · rw [if_neg c14] at H
               exact absurd H (by simp)
           · rw [if_neg c13] at H
             exact absurd H (by simp)
         · rw [if_neg c12] at H
           have c12b0 : decide (4 ≤ (t158.length : Int)) = false := decide_eq_false c12
           have c12b1 : decide (4 ≤ t158.length) = false := decide_eq_false (by omega)
           clear c12
           obtain ⟨y204, hy204⟩ : ∃ y_ : List Int, y_ = (([] : List Int)) := ⟨_, rfl⟩
           replace H : (if y204.length + t158.length < 17592186044416 then ((some (y204 ++ t158 : List Int)).bind fun y207 => ((some (([wrap64 (Int.tdiv t161 256), Int.tmod t161 256] : List Int) : List Int)).bind fun y210 => (if y207.length + y210.length < 17592186044416 then (if ((t158.length : Int) % 2) = 1 then (if (t158.length : Int) < 4 then (some (decide (t161 ≤ 65535))) else ((impl_SumBytes.f kj4 y164).bind fun t216 => (if t216 = t161 then (some (decide (t161 ≤ 65535))) else (some false)))) else (if (wrap64 ((t158.length : Int) + 2)) > 16 then (if (t158.length : Int) < 4 then (some (decide (t161 ≤ 65535))) else ((impl_SumBytes.f kj4 y164).bind fun t217 => (if t217 = t161 then (some (decide (t161 ≤ 65535))) else (some false)))) else ((impl_SumBytes.f kj4 (y207 ++ y210)).bind fun t218 => (if t218 = 0 then (if (t158.length : Int) < 4 then (some (decide (t161 ≤ 65535))) else ((impl_SumBytes.f kj4 y164).bind fun t219 => (if t219 = t161 then (some (decide (t161 ≤ 65535))) else (some false)))) else (some false))))) else (none)))) else (none)) = some r := by first | (rw [hy204]; with_reducible exact H) | (have H2_ := (Option.bind_some _ _).symm.trans H; rw [hy204]; with_reducible exact H2_) | (have H2_ := (Option.bind_some _ _).symm.trans H; with_reducible exact H2_) | with_reducible exact H | (rw [hy204]; exact H) | exact H
           have Ny204 := Aside0.mk hy204
           clear hy204
           by_cases c205 : y204.length + t158.length < 17592186044416
           · rw [if_pos c205] at H
             have LMc205 := Aside0.mk c205
             clear c205
             obtain ⟨y207, hy207⟩ : ∃ y_ : List Int, y_ = (y204 ++ t158) := ⟨_, rfl⟩
             replace H : ((some (([wrap64 (Int.tdiv t161 256), Int.tmod t161 256] : List Int) : List Int)).bind fun y210 => (if y207.length + y210.length < 17592186044416 then (if ((t158.length : Int) % 2) = 1 then (if (t158.length : Int) < 4 then (some (decide (t161 ≤ 65535))) else ((impl_SumBytes.f kj4 y164).bind fun t216 => (if t216 = t161 then (some (decide (t161 ≤ 65535))) else (some false)))) else (if (wrap64 ((t158.length : Int) + 2)) > 16 then (if (t158.length : Int) < 4 then (some (decide (t161 ≤ 65535))) else ((impl_SumBytes.f kj4 y164).bind fun t217 => (if t217 = t161 then (some (decide (t161 ≤ 65535))) else (some false)))) else ((impl_SumBytes.f kj4 (y207 ++ y210)).bind fun t218 => (if t218 = 0 then (if (t158.length : Int) < 4 then (some (decide (t161 ≤ 65535))) else ((impl_SumBytes.f kj4 y164).bind fun t219 => (if t219 = t161 then (some (decide (t161 ≤ 65535))) else (some false)))) else (some false))))) else (none))) = some r := by first | (rw [hy207]; with_reducible exact H) | (have H2_ := (Option.bind_some _ _).symm.trans H; rw [hy207]; with_reducible exact H2_) | (have H2_ := (Option.bind_some _ _).symm.trans H; with_reducible exact H2_) | with_reducible exact H | (rw [hy207]; exact H) | exact H
             have Ny207 := Aside0.mk hy207
             clear hy207
             obtain ⟨y210, hy210⟩ : ∃ y_ : List Int, y_ = (([wrap64 (Int.tdiv t161 256), Int.tmod t161 256] : List Int)) := ⟨_, rfl⟩
             replace H : (if y207.length + y210.length < 17592186044416 then (if ((t158.length : Int) % 2) = 1 then (if (t158.length : Int) < 4 then (some (decide (t161 ≤ 65535))) else ((impl_SumBytes.f kj4 y164).bind fun t216 => (if t216 = t161 then (some (decide (t161 ≤ 65535))) else (some false)))) else (if (wrap64 ((t158.length : Int) + 2)) > 16 then (if (t158.length : Int) < 4 then (some (decide (t161 ≤ 65535))) else ((impl_SumBytes.f kj4 y164).bind fun t217 => (if t217 = t161 then (some (decide (t161 ≤ 65535))) else (some false)))) else ((impl_SumBytes.f kj4 (y207 ++ y210)).bind fun t218 => (if t218 = 0 then (if (t158.length : Int) < 4 then (some (decide (t161 ≤ 65535))) else ((impl_SumBytes.f kj4 y164).bind fun t219 => (if t219 = t161 then (some (decide (t161 ≤ 65535))) else (some false)))) else (some false))))) else (none)) = some r := by first | (rw [hy210]; with_reducible exact H) | (have H2_ := (Option.bind_some _ _).symm.trans H; rw [hy210]; with_reducible exact H2_) | (have H2_ := (Option.bind_some _ _).symm.trans H; with_reducible exact H2_) | with_reducible exact H | (rw [hy210]; exact H) | exact H
             have Ny210 := Aside0.mk hy210
             clear hy210
             by_cases c206 : y207.length + y210.length < 17592186044416
             · rw [if_pos c206] at H
               have LMc206 := Aside0.mk c206
               clear c206
               obtain ⟨y213, hy213⟩ : ∃ y_ : List Int, y_ = (y207 ++ y210) := ⟨_, rfl⟩
               replace H : (if ((t158.length : Int) % 2) = 1 then (if (t158.length : Int) < 4 then (some (decide (t161 ≤ 65535))) else ((impl_SumBytes.f kj4 y164).bind fun t216 => (if t216 = t161 then (some (decide (t161 ≤ 65535))) else (some false)))) else (if (wrap64 ((t158.length : Int) + 2)) > 16 then (if (t158.length : Int) < 4 then (some (decide (t161 ≤ 65535))) else ((impl_SumBytes.f kj4 y164).bind fun t217 => (if t217 = t161 then (some (decide (t161 ≤ 65535))) else (some false)))) else ((impl_SumBytes.f kj4 y213).bind fun t218 => (if t218 = 0 then (if (t158.length : Int) < 4 then (some (decide (t161 ≤ 65535))) else ((impl_SumBytes.f kj4 y164).bind fun t219 => (if t219 = t161 then (some (decide (t161 ≤ 65535))) else (some false)))) else (some false))))) = some r := by first | (rw [hy213]; with_reducible exact H) | (have H2_ := (Option.bind_some _ _).symm.trans H; rw [hy213]; with_reducible exact H2_) | (have H2_ := (Option.bind_some _ _).symm.trans H; with_reducible exact H2_) | with_reducible exact H | (rw [hy213]; exact H) | exact H
               have Ny213 := Aside0.mk hy213
               clear hy213
               go_upto_region 12 with (first | ((with_reducible refine gate_dst (N := 29) rfl ?_); refine Kd.R_lit (Kd.int .i64) _ 3 ?hg (N := 29) ?hd (xs := ([] : List Int)) (inner := []) (ok := fun _ => True) (okp := fun _ => True) ?hr ?hp (fun _ hk => hk) trivial (Below.refl _ _) (Nat.le_refl _) (by simp) ?_; (case hd => rfl); (case hg => rfl); (case hr => first | (go_simp; done) | (go_simp; rfl)); (case hp => exact (Reps.none _ _)); intro v165 w288 ho289 hb hg_ hnew_; clear hg_ hnew_; (first | rw [← Ny164.out] at ho289 | (simp only [Int.reduceToNat] at ho289; rw [← Ny164.out] at ho289)); have n0_ := Aside0.mk (Kd.R_elder' (by (with_reducible repeat (first | apply Kd.R_alloc | apply Kd.R_drewN | apply Kd.R_drew)); exact HO_3.out) (Kd.R_base ho289) hb); have n1_ := Aside0.mk (Kd.R_lower (Kd.R_new' ho289 (Kd.R_lt (by (with_reducible repeat (first | apply Kd.R_alloc | apply Kd.R_drewN | apply Kd.R_drew)); exact HO_3.out))) (below_size (by repeat (first | (with_reducible first | exact HB.out | apply below_alloc | apply pw_below_drewN | apply below_drew1) | exact HB.out)))); have n2_ := Aside0.mk (below_step (by repeat (first | (with_reducible first | exact HB.out | apply below_alloc | apply pw_below_drewN | apply below_drew1) | exact HB.out)) hb); clear HO_3; clear HB; have HO_3 := n0_; have HO166 := n1_; have HB := n2_; clear n0_ n1_ n2_; clear hb ho289) | ((with_reducible refine gate_dst (N := 42) rfl ?_); refine Kd.R_lit (Kd.int .i64) _ 3 ?hg (N := 42) ?hd (xs := ([] : List Int)) (inner := []) (ok := fun _ => True) (okp := fun _ => True) ?hr ?hp (fun _ hk => hk) trivial (Below.refl _ _) (Nat.le_refl _) (by simp) ?_; (case hd => rfl); (case hg => rfl); (case hr => first | (go_simp; done) | (go_simp; rfl)); (case hp => exact (Reps.none _ _)); intro v205 w290 ho291 hb hg_ hnew_; clear hg_ hnew_; (first | rw [← Ny204.out] at ho291 | (simp only [Int.reduceToNat] at ho291; rw [← Ny204.out] at ho291)); have n0_ := Aside0.mk (Kd.R_elder' (by (with_reducible repeat (first | apply Kd.R_alloc | apply Kd.R_drewN | apply Kd.R_drew)); exact HO_3.out) (Kd.R_base ho291) hb); have n1_ := Aside0.mk (Kd.R_elder' (by (with_reducible repeat (first | apply Kd.R_alloc | apply Kd.R_drewN | apply Kd.R_drew)); exact HO166.out) (Kd.R_base ho291) hb); have n2_ := Aside0.mk (Kd.R_lower (Kd.R_new' (Kd.R_new' ho291 (Kd.R_lt (by (with_reducible repeat (first | apply Kd.R_alloc | apply Kd.R_drewN | apply Kd.R_drew)); exact HO_3.out))) (Kd.R_lt (by (with_reducible repeat (first | apply Kd.R_alloc | apply Kd.R_drewN | apply Kd.R_drew)); exact HO166.out))) (below_size (by repeat (first | (with_reducible first | exact HB.out | apply below_alloc | apply pw_below_drewN | apply below_drew1) | exact HB.out)))); have n3_ := Aside0.mk (below_step (by repeat (first | (with_reducible first | exact HB.out | apply below_alloc | apply pw_below_drewN | apply below_drew1) | exact HB.out)) hb); clear HO_3; clear HO166; clear HB; have HO_3 := n0_; have HO166 := n1_; have HO206 := n2_; have HB := n3_; clear n0_ n1_ n2_ n3_; clear hb ho291) | ((with_reducible refine gate_builtin (b := .append) (xs := #[.tmp 42, .tmp 43]) rfl ?_); at_builtin; refine Kd.R_append_rows (Kd.int .i64) (w0 := w) w.heap.size rfl (.tmp 42) (.tmp 43) 22 3 (.int .i64 0) 8 rfl Try.underlying22 info3 rfl (by decide) (by omega) v205 y204 t158 _ _ _ (fun k_ => some k_ ≠ (.slice Ao7 t158.length co7 : Value).ownBlock ∧ some k_ ≠ (v165 : Value).ownBlock) (fun _ => False) rfl rfl ?aO ?aR (fun _ _ h => h) (fun _ h => h.elim) ?aF ?aB ?aS ?aL ?_; (case aR => repeat (first | exact (Kd.R_reads' HO_3.out).2.2 | (with_reducible refine Kd.C_alloc ?_ _) | (with_reducible refine Kd.C_drewN ?_ _) | (with_reducible refine Kd.C_drew ?_))); (case aB => exact (by repeat (first | (with_reducible first | exact HB.out | apply below_alloc | apply pw_below_drewN | apply below_drew1) | exact HB.out))); (case aF => exact (fun k_ hk => ⟨Kd.fresh' (Kd.R_lt (by (with_reducible repeat (first | apply Kd.R_alloc | apply Kd.R_drewN | apply Kd.R_drew)); exact HO_3.out)) k_ hk, Kd.fresh' (Kd.R_lt (by (with_reducible repeat (first | apply Kd.R_alloc | apply Kd.R_drewN | apply Kd.R_drew)); exact HO166.out)) k_ hk⟩)); (case aO => exact (by (with_reducible repeat (first | apply Kd.R_alloc | apply Kd.R_drewN | apply Kd.R_drew)); exact Kd.R_mono HO206.out (fun _ hk => ⟨hk.1.2, hk.2⟩))); (case aS => exact (below_size (by repeat (first | (with_reducible first | exact HB.out | apply below_alloc | apply pw_below_drewN | apply below_drew1) | exact HB.out)))); (case aL => have := LMc205.out; omega); intro v208 w292 ho hb hg hat; rw [← Ny207.out] at ho; have n0_ := Aside0.mk (Kd.R_after (ok := (fun k_ => some k_ ≠ (v165 : Value).ownBlock)) (by (with_reducible repeat (first | apply Kd.R_alloc | apply Kd.R_drewN | apply Kd.R_drew)); exact Kd.R_mono HO_3.out (fun _ hk => ⟨hk.1.2, hk.2⟩)) hg hat); have n1_ := Aside0.mk (Kd.R_after (ok := (fun k_ => some k_ ≠ (.slice Ao7 t158.length co7 : Value).ownBlock)) (by (with_reducible repeat (first | apply Kd.R_alloc | apply Kd.R_drewN | apply Kd.R_drew)); exact Kd.R_mono HO166.out (fun _ hk => ⟨hk.1.2, hk.2⟩)) hg hat); have n2_ := Aside0.mk (hb); have n3_ := Aside0.mk (ho); clear HO_3; clear HO166; clear HB; clear HO206; have HO_3 := n0_; have HO166 := n1_; have HB := n2_; have HO209 := n3_; clear n0_ n1_ n2_ n3_; clear ho hb hg hat) | ((with_reducible refine gate_dst (N := 49) rfl ?_); refine Kd.R_lit (Kd.int .i64) _ 3 ?hg (N := 49) ?hd (xs := ([wrap64 (Int.tdiv t161 256), Int.tmod t161 256] : List Int)) (inner := [.int .i64 (wrap64 (Int.tdiv t161 256)), .int .i64 (Int.tmod t161 256)]) (ok := fun _ => True) (okp := fun _ => True) ?hr ?hp (fun _ hk => hk) trivial (Below.refl _ _) (Nat.le_refl _) (by simp) ?_; (case hd => rfl); (case hg => rfl); (case hr => first | (go_simp; done) | (go_simp; rfl)); (case hp => exact (Reps.one (show Kd.M (Kd.int .i64) _ _ _ (wrap64 (Int.tdiv t161 256)) [.int .i64 (wrap64 (Int.tdiv t161 256))] from rfl) (Reps.one (show Kd.M (Kd.int .i64) _ _ _ (Int.tmod t161 256) [.int .i64 (Int.tmod t161 256)] from rfl) (Reps.none _ _)))); intro v211 w293 ho294 hb hg_ hnew_; clear hg_ hnew_; (first | rw [← Ny210.out] at ho294 | (simp only [Int.reduceToNat] at ho294; rw [← Ny210.out] at ho294)); have n0_ := Aside0.mk (Kd.R_elder' (by (with_reducible repeat (first | apply Kd.R_alloc | apply Kd.R_drewN | apply Kd.R_drew)); exact HO_3.out) (Kd.R_base ho294) hb); have n1_ := Aside0.mk (Kd.R_elder' (by (with_reducible repeat (first | apply Kd.R_alloc | apply Kd.R_drewN | apply Kd.R_drew)); exact HO166.out) (Kd.R_base ho294) hb); have n2_ := Aside0.mk (Kd.R_elder' (by (with_reducible repeat (first | apply Kd.R_alloc | apply Kd.R_drewN | apply Kd.R_drew)); exact HO209.out) (Kd.R_base ho294) hb); have n3_ := Aside0.mk (Kd.R_lower (Kd.R_new' (Kd.R_new' (Kd.R_new' ho294 (Kd.R_lt (by (with_reducible repeat (first | apply Kd.R_alloc | apply Kd.R_drewN | apply Kd.R_drew)); exact HO_3.out))) (Kd.R_lt (by (with_reducible repeat (first | apply Kd.R_alloc | apply Kd.R_drewN | apply Kd.R_drew)); exact HO166.out))) (Kd.R_lt (by (with_reducible repeat (first | apply Kd.R_alloc | apply Kd.R_drewN | apply Kd.R_drew)); exact HO209.out))) (below_size (by repeat (first | (with_reducible first | exact HB.out | apply below_alloc | apply pw_below_drewN | apply below_drew1) | exact HB.out)))); have n4_ := Aside0.mk (below_step (by repeat (first | (with_reducible first | exact HB.out | apply below_alloc | apply pw_below_drewN | apply below_drew1) | exact HB.out)) hb); clear HO_3; clear HO166; clear HO209; clear HB; have HO_3 := n0_; have HO166 := n1_; have HO209 := n2_; have HO212 := n3_; have HB := n4_; clear n0_ n1_ n2_ n3_ n4_; clear hb ho294; obtain ⟨Ao296, co296, eo296⟩ := Kd.R_slice HO212.out; subst eo296) | ((with_reducible refine gate_builtin (b := .append) (xs := #[.tmp 44, .tmp 49]) rfl ?_); at_builtin; refine Kd.R_append_rows (Kd.int .i64) (w0 := w) w.heap.size rfl (.tmp 44) (.tmp 49) 22 3 (.int .i64 0) 8 rfl Try.underlying22 info3 rfl (by decide) (by omega) v208 y207 y210 _ _ _ (fun k_ => some k_ ≠ (.slice Ao7 t158.length co7 : Value).ownBlock ∧ some k_ ≠ (v165 : Value).ownBlock ∧ some k_ ≠ (.slice Ao296 y210.length co296 : Value).ownBlock) (fun _ => False) rfl rfl ?aO ?aR (fun _ _ h => h) (fun _ h => h.elim) ?aF ?aB ?aS ?aL ?_; (case aR => repeat (first | exact (Kd.R_reads' HO212.out).2.2 | (with_reducible refine Kd.C_alloc ?_ _) | (with_reducible refine Kd.C_drewN ?_ _) | (with_reducible refine Kd.C_drew ?_))); (case aB => exact (by repeat (first | (with_reducible first | exact HB.out | apply below_alloc | apply pw_below_drewN | apply below_drew1) | exact HB.out))); (case aF => exact (fun k_ hk => ⟨Kd.fresh' (Kd.R_lt (by (with_reducible repeat (first | apply Kd.R_alloc | apply Kd.R_drewN | apply Kd.R_drew)); exact HO_3.out)) k_ hk, Kd.fresh' (Kd.R_lt (by (with_reducible repeat (first | apply Kd.R_alloc | apply Kd.R_drewN | apply Kd.R_drew)); exact HO166.out)) k_ hk, Kd.fresh' (Kd.R_lt (by (with_reducible repeat (first | apply Kd.R_alloc | apply Kd.R_drewN | apply Kd.R_drew)); exact HO212.out)) k_ hk⟩)); (case aO => exact (by (with_reducible repeat (first | apply Kd.R_alloc | apply Kd.R_drewN | apply Kd.R_drew)); exact Kd.R_mono HO209.out (fun _ hk => ⟨hk.1.1, ⟨hk.1.2, hk.2⟩⟩))); (case aS => exact (below_size (by repeat (first | (with_reducible first | exact HB.out | apply below_alloc | apply pw_below_drewN | apply below_drew1) | exact HB.out)))); (case aL => have := LMc206.out; omega); intro v214 w295 ho hb hg hat; rw [← Ny213.out] at ho; have n0_ := Aside0.mk (Kd.R_after (ok := (fun k_ => some k_ ≠ (v165 : Value).ownBlock ∧ some k_ ≠ (.slice Ao296 y210.length co296 : Value).ownBlock)) (by (with_reducible repeat (first | apply Kd.R_alloc | apply Kd.R_drewN | apply Kd.R_drew)); exact Kd.R_mono HO_3.out (fun _ hk => ⟨⟨hk.1.1, hk.2⟩, hk.1.2⟩)) hg hat); have n1_ := Aside0.mk (Kd.R_after (ok := (fun k_ => some k_ ≠ (.slice Ao7 t158.length co7 : Value).ownBlock ∧ some k_ ≠ (.slice Ao296 y210.length co296 : Value).ownBlock)) (by (with_reducible repeat (first | apply Kd.R_alloc | apply Kd.R_drewN | apply Kd.R_drew)); exact Kd.R_mono HO166.out (fun _ hk => ⟨⟨hk.1.1, hk.2⟩, hk.1.2⟩)) hg hat); have n2_ := Aside0.mk (Kd.R_after (ok := (fun k_ => some k_ ≠ (.slice Ao7 t158.length co7 : Value).ownBlock ∧ some k_ ≠ (v165 : Value).ownBlock)) (by (with_reducible repeat (first | apply Kd.R_alloc | apply Kd.R_drewN | apply Kd.R_drew)); exact Kd.R_mono HO212.out (fun _ hk => ⟨⟨hk.1.1.2, hk.1.2⟩, hk.2⟩)) hg hat); have n3_ := Aside0.mk (hb); have n4_ := Aside0.mk (ho); clear HO_3; clear HO166; clear HO212; clear HB; clear HO209; have HO_3 := n0_; have HO166 := n1_; have HO212 := n2_; have HB := n3_; have HO215 := n4_; clear n0_ n1_ n2_ n3_ n4_; clear ho hb hg hat; obtain ⟨Ao297, co297, eo297⟩ := Kd.R_slice HO215.out; subst eo297))
               by_cases c207 : ((t158.length : Int) % 2) = 1
               · rw [if_pos c207] at H
                 have c207b0 : (((t158.length : Int) % 2) == 1) = true := beq_iff_eq.mpr c207
                 have c207b1 : (((t158.length : Int) % 2) != 1) = false := bne_eq_false_iff_eq.mpr c207
                 clear c207
                 by_cases c208 : (t158.length : Int) < 4
                 · rw [if_pos c208] at H
                   have c208b0 : decide ((t158.length : Int) < 4) = true := decide_eq_true c208
                   have c208b1 : decide (t158.length < 4) = true := decide_eq_true (by omega)
                   clear c208
                   obtain rfl := Option.some.inj H
                   try go_wp2
                   go_ret
                   exact ⟨by first | rfl | (simp [errW_none, errW_some] <;> rfl) | (simp [*, errW_none, errW_some] <;> rfl), by repeat (first | (with_reducible first | exact HB.out | apply below_alloc | apply pw_below_drewN | apply below_drew1) | exact HB.out)⟩
                 · rw [if_neg c208] at H
                   have c208b0 : decide ((t158.length : Int) < 4) = false := decide_eq_false c208
                   have c208b1 : decide (t158.length < 4) = false := decide_eq_false (by omega)
                   clear c208
                   replace H := Option.bind_eq_some_iff.mp H
                   obtain ⟨t216, A2180, H⟩ := H
                   replace H : (if t216 = t161 then (some (decide (t161 ≤ 65535))) else (some false)) = some r := H
                   have A218 := Aside0.mk A2180
                   clear A2180
                   by_cases c219 : t216 = t161
                   · rw [if_pos c219] at H
                     have c219b0 : (t216 == t161) = true := beq_iff_eq.mpr c219
                     have c219b1 : (t216 != t161) = false := bne_eq_false_iff_eq.mpr c219
                     clear c219
                     obtain rfl := Option.some.inj H
                     obtain ⟨Aoz, coz, eoz⟩ := Kd.R_slice HO166.out
                     subst eoz
                     try go_wp2_with ((go_at_call 18; (with_reducible refine (impl_SumBytes.calls kj4 _ _ y164 t216 _ ?side1 ?side2 A218.out).mono ?_); (case side1 => repeat (first | exact (Kd.R_reads' HO166.out).2.2 | (with_reducible refine Kd.C_alloc ?_ _) | (with_reducible refine Kd.C_drewN ?_ _) | (with_reducible refine Kd.C_drew ?_))); (case side2 => exact (Kd.R_reads' HO166.out).2.1); rintro e w' ⟨rfl, ⟨nd, rfl⟩⟩))
                     go_ret
                     exact ⟨by first | rfl | (simp [errW_none, errW_some] <;> rfl) | (simp [*, errW_none, errW_some] <;> rfl), by repeat (first | (with_reducible first | exact HB.out | apply below_alloc | apply pw_below_drewN | apply below_drew1) | exact HB.out)⟩
                   · rw [if_neg c219] at H
                     have c219b0 : (t216 == t161) = false := beq_eq_false_iff_ne.mpr c219
                     have c219b1 : (t216 != t161) = true := bne_iff_ne.mpr c219
                     obtain rfl := Option.some.inj H
                     obtain ⟨Aoz, coz, eoz⟩ := Kd.R_slice HO166.out
                     subst eoz
                     try go_wp2_with ((go_at_call 18; (with_reducible refine (impl_SumBytes.calls kj4 _ _ y164 t216 _ ?side1 ?side2 A218.out).mono ?_); (case side1 => repeat (first | exact (Kd.R_reads' HO166.out).2.2 | (with_reducible refine Kd.C_alloc ?_ _) | (with_reducible refine Kd.C_drewN ?_ _) | (with_reducible refine Kd.C_drew ?_))); (case side2 => exact (Kd.R_reads' HO166.out).2.1); rintro e w' ⟨rfl, ⟨nd, rfl⟩⟩))
                     go_ret
                     exact ⟨by first | rfl | (simp [errW_none, errW_some] <;> rfl) | (simp [*, errW_none, errW_some] <;> rfl), by repeat (first | (with_reducible first | exact HB.out | apply below_alloc | apply pw_below_drewN | apply below_drew1) | exact HB.out)⟩
               · rw [if_neg c207] at H
                 have c207b0 : (((t158.length : Int) % 2) == 1) = false := beq_eq_false_iff_ne.mpr c207
                 have c207b1 : (((t158.length : Int) % 2) != 1) = true := bne_iff_ne.mpr c207
                 by_cases c240 : (wrap64 ((t158.length : Int) + 2)) > 16
                 · rw [if_pos c240] at H
                   have c240b0 : decide (16 < (wrap64 ((t158.length : Int) + 2))) = true := decide_eq_true c240
                   clear c240
                   by_cases c241 : (t158.length : Int) < 4
                   · rw [if_pos c241] at H
                     have c241b0 : decide ((t158.length : Int) < 4) = true := decide_eq_true c241
                     have c241b1 : decide (t158.length < 4) = true := decide_eq_true (by omega)
                     clear c241
                     obtain rfl := Option.some.inj H
                     try go_wp2
                     go_ret
                     exact ⟨by first | rfl | (simp [errW_none, errW_some] <;> rfl) | (simp [*, errW_none, errW_some] <;> rfl), by repeat (first | (with_reducible first | exact HB.out | apply below_alloc | apply pw_below_drewN | apply below_drew1) | exact HB.out)⟩
                   · rw [if_neg c241] at H
                     have c241b0 : decide ((t158.length : Int) < 4) = false := decide_eq_false c241
                     have c241b1 : decide (t158.length < 4) = false := decide_eq_false (by omega)
                     clear c241
                     replace H := Option.bind_eq_some_iff.mp H
                     obtain ⟨t217, A2510, H⟩ := H
                     replace H : (if t217 = t161 then (some (decide (t161 ≤ 65535))) else (some false)) = some r := H
                     have A251 := Aside0.mk A2510
                     clear A2510
                     by_cases c252 : t217 = t161
                     · rw [if_pos c252] at H
                       have c252b0 : (t217 == t161) = true := beq_iff_eq.mpr c252
                       have c252b1 : (t217 != t161) = false := bne_eq_false_iff_eq.mpr c252
                       clear c252
                       obtain rfl := Option.some.inj H
                       obtain ⟨Aoz, coz, eoz⟩ := Kd.R_slice HO166.out
                       subst eoz
                       try go_wp2_with ((go_at_call 18; (with_reducible refine (impl_SumBytes.calls kj4 _ _ y164 t217 _ ?side1 ?side2 A251.out).mono ?_); (case side1 => repeat (first | exact (Kd.R_reads' HO166.out).2.2 | (with_reducible refine Kd.C_alloc ?_ _) | (with_reducible refine Kd.C_drewN ?_ _) | (with_reducible refine Kd.C_drew ?_))); (case side2 => exact (Kd.R_reads' HO166.out).2.1); rintro e w' ⟨rfl, ⟨nd, rfl⟩⟩))
                       go_ret
                       exact ⟨by first | rfl | (simp [errW_none, errW_some] <;> rfl) | (simp [*, errW_none, errW_some] <;> rfl), by repeat (first | (with_reducible first | exact HB.out | apply below_alloc | apply pw_below_drewN | apply below_drew1) | exact HB.out)⟩
                     · rw [if_neg c252] at H
                       have c252b0 : (t217 == t161) = false := beq_eq_false_iff_ne.mpr c252
                       have c252b1 : (t217 != t161) = true := bne_iff_ne.mpr c252
                       obtain rfl := Option.some.inj H
                       obtain ⟨Aoz, coz, eoz⟩ := Kd.R_slice HO166.out
                       subst eoz
                       try go_wp2_with ((go_at_call 18; (with_reducible refine (impl_SumBytes.calls kj4 _ _ y164 t217 _ ?side1 ?side2 A251.out).mono ?_); (case side1 => repeat (first | exact (Kd.R_reads' HO166.out).2.2 | (with_reducible refine Kd.C_alloc ?_ _) | (with_reducible refine Kd.C_drewN ?_ _) | (with_reducible refine Kd.C_drew ?_))); (case side2 => exact (Kd.R_reads' HO166.out).2.1); rintro e w' ⟨rfl, ⟨nd, rfl⟩⟩))
                       go_ret
                       exact ⟨by first | rfl | (simp [errW_none, errW_some] <;> rfl) | (simp [*, errW_none, errW_some] <;> rfl), by repeat (first | (with_reducible first | exact HB.out | apply below_alloc | apply pw_below_drewN | apply below_drew1) | exact HB.out)⟩
                 · rw [if_neg c240] at H
                   have c240b0 : decide (16 < (wrap64 ((t158.length : Int) + 2))) = false := decide_eq_false c240
                   clear c240
                   replace H := Option.bind_eq_some_iff.mp H
                   obtain ⟨t218, A2730, H⟩ := H
                   replace H : (if t218 = 0 then (if (t158.length : Int) < 4 then (some (decide (t161 ≤ 65535))) else ((impl_SumBytes.f kj4 y164).bind fun t219 => (if t219 = t161 then (some (decide (t161 ≤ 65535))) else (some false)))) else (some false)) = some r := H
                   have A273 := Aside0.mk A2730
                   clear A2730
                   by_cases c274 : t218 = 0
                   · rw [if_pos c274] at H
                     have c274b0 : (t218 == 0) = true := beq_iff_eq.mpr c274
                     have c274b1 : (t218 != 0) = false := bne_eq_false_iff_eq.mpr c274
                     clear c274
                     by_cases c275 : (t158.length : Int) < 4
                     · rw [if_pos c275] at H
                       have c275b0 : decide ((t158.length : Int) < 4) = true := decide_eq_true c275
                       have c275b1 : decide (t158.length < 4) = true := decide_eq_true (by omega)
                       clear c275
                       obtain rfl := Option.some.inj H
                       try go_wp2_with ((go_at_call 18; (with_reducible refine (impl_SumBytes.calls kj4 _ _ y213 t218 _ ?side1 ?side2 A273.out).mono ?_); (case side1 => repeat (first | exact (Kd.R_reads' HO215.out).2.2 | (with_reducible refine Kd.C_alloc ?_ _) | (with_reducible refine Kd.C_drewN ?_ _) | (with_reducible refine Kd.C_drew ?_))); (case side2 => exact (Kd.R_reads' HO215.out).2.1); rintro e w' ⟨rfl, ⟨nd, rfl⟩⟩))
                       go_ret
                       exact ⟨by first | rfl | (simp [errW_none, errW_some] <;> rfl) | (simp [*, errW_none, errW_some] <;> rfl), by repeat (first | (with_reducible first | exact HB.out | apply below_alloc | apply pw_below_drewN | apply below_drew1) | exact HB.out)⟩
                     · rw [if_neg c275] at H
                       have c275b0 : decide ((t158.length : Int) < 4) = false := decide_eq_false c275
                       have c275b1 : decide (t158.length < 4) = false := decide_eq_false (by omega)
                       clear c275
                       replace H := Option.bind_eq_some_iff.mp H
                       obtain ⟨t219, A2860, H⟩ := H
                       replace H : (if t219 = t161 then (some (decide (t161 ≤ 65535))) else (some false)) = some r := H
                       have A286 := Aside0.mk A2860
                       clear A2860
                       by_cases c287 : t219 = t161
                       · rw [if_pos c287] at H
                         have c287b0 : (t219 == t161) = true := beq_iff_eq.mpr c287
                         have c287b1 : (t219 != t161) = false := bne_eq_false_iff_eq.mpr c287
                         clear c287
                         obtain rfl := Option.some.inj H
                         try go_wp2_with (first | (go_at_call 18; (with_reducible refine (impl_SumBytes.calls kj4 _ _ y213 t218 _ ?side1 ?side2 A273.out).mono ?_); (case side1 => repeat (first | exact (Kd.R_reads' HO215.out).2.2 | (with_reducible refine Kd.C_alloc ?_ _) | (with_reducible refine Kd.C_drewN ?_ _) | (with_reducible refine Kd.C_drew ?_))); (case side2 => exact (Kd.R_reads' HO215.out).2.1); rintro e w' ⟨rfl, ⟨nd, rfl⟩⟩; obtain ⟨Ao298, co298, eo298⟩ := Kd.R_slice HO166.out; subst eo298) | (go_at_call 18; (with_reducible refine (impl_SumBytes.calls kj4 _ _ y164 t219 _ ?side1 ?side2 A286.out).mono ?_); (case side1 => repeat (first | exact (Kd.R_reads' HO166.out).2.2 | (with_reducible refine Kd.C_alloc ?_ _) | (with_reducible refine Kd.C_drewN ?_ _) | (with_reducible refine Kd.C_drew ?_))); (case side2 => exact (Kd.R_reads' HO166.out).2.1); rintro e w' ⟨rfl, ⟨nd, rfl⟩⟩))
                         go_ret
                         exact ⟨by first | rfl | (simp [errW_none, errW_some] <;> rfl) | (simp [*, errW_none, errW_some] <;> rfl), by repeat (first | (with_reducible first | exact HB.out | apply below_alloc | apply pw_below_drewN | apply below_drew1) | exact HB.out)⟩
                       · rw [if_neg c287] at H
                         have c287b0 : (t219 == t161) = false := beq_eq_false_iff_ne.mpr c287
                         have c287b1 : (t219 != t161) = true := bne_iff_ne.mpr c287
                         obtain rfl := Option.some.inj H
                         try go_wp2_with (first | (go_at_call 18; (with_reducible refine (impl_SumBytes.calls kj4 _ _ y213 t218 _ ?side1 ?side2 A273.out).mono ?_); (case side1 => repeat (first | exact (Kd.R_reads' HO215.out).2.2 | (with_reducible refine Kd.C_alloc ?_ _) | (with_reducible refine Kd.C_drewN ?_ _) | (with_reducible refine Kd.C_drew ?_))); (case side2 => exact (Kd.R_reads' HO215.out).2.1); rintro e w' ⟨rfl, ⟨nd, rfl⟩⟩; obtain ⟨Ao309, co309, eo309⟩ := Kd.R_slice HO166.out; subst eo309) | (go_at_call 18; (with_reducible refine (impl_SumBytes.calls kj4 _ _ y164 t219 _ ?side1 ?side2 A286.out).mono ?_); (case side1 => repeat (first | exact (Kd.R_reads' HO166.out).2.2 | (with_reducible refine Kd.C_alloc ?_ _) | (with_reducible refine Kd.C_drewN ?_ _) | (with_reducible refine Kd.C_drew ?_))); (case side2 => exact (Kd.R_reads' HO166.out).2.1); rintro e w' ⟨rfl, ⟨nd, rfl⟩⟩))
                         go_ret
                         exact ⟨by first | rfl | (simp [errW_none, errW_some] <;> rfl) | (simp [*, errW_none, errW_some] <;> rfl), by repeat (first | (with_reducible first | exact HB.out | apply below_alloc | apply pw_below_drewN | apply below_drew1) | exact HB.out)⟩
                   · rw [if_neg c274] at H
                     have c274b0 : (t218 == 0) = false := beq_eq_false_iff_ne.mpr c274
                     have c274b1 : (t218 != 0) = true := bne_iff_ne.mpr c274
                     obtain rfl := Option.some.inj H
                     try go_wp2_with ((go_at_call 18; (with_reducible refine (impl_SumBytes.calls kj4 _ _ y213 t218 _ ?side1 ?side2 A273.out).mono ?_); (case side1 => repeat (first | exact (Kd.R_reads' HO215.out).2.2 | (with_reducible refine Kd.C_alloc ?_ _) | (with_reducible refine Kd.C_drewN ?_ _) | (with_reducible refine Kd.C_drew ?_))); (case side2 => exact (Kd.R_reads' HO215.out).2.1); rintro e w' ⟨rfl, ⟨nd, rfl⟩⟩))
                     go_ret
                     exact ⟨by first | rfl | (simp [errW_none, errW_some] <;> rfl) | (simp [*, errW_none, errW_some] <;> rfl), by repeat (first | (with_reducible first | exact HB.out | apply below_alloc | apply pw_below_drewN | apply below_drew1) | exact HB.out)⟩
             · rw [if_neg c206] at H
               exact absurd H (by simp)
           · rw [if_neg c205] at H
             exact absurd H (by simp)

/-- THE ONE PURE STATEMENT of laws_FnSumBytes: yours. -/
def laws_FnSumBytes.Pure : Prop := ∀ (l0 : List Int), l0.length ≤ maxLen → l0.length * 1 ≤ 140737488351232 → (∀ x ∈ l0, (Lit.int .u8 x).wf = true) → ∃ k, laws_FnSumBytes.f k l0 = some true
theorem laws_FnSumBytes.walk (P : laws_FnSumBytes.Pure) (a0 : Option Addr) (len0 cap0 : Nat) (z0 : List Int) (w : World) (w0 : (a0 = none ∧ len0 = 0 ∧ cap0 = 0 ∧ z0 = []) ∨ ∃ x, a0 = some x ∧ len0 ≤ cap0 ∧ cap0 ≤ maxLen ∧ z0.length = cap0 ∧ (∀ i, i < z0.length → w.cell? (x.add i) = some (.int .u8 (z0.getD i 0))) ∧ ∀ n ∈ z0, (Lit.int .u8 n).wf = true) (y0 : len0 * 1 ≤ 140737488351232) :
   Calls Try.prog 7 #[.slice a0 len0 cap0] w fun e w' => e = .returned (.bool true) ∧ Below w.heap.size w w' := by
 obtain ⟨l0, rfl, hr0, hm0, hw0, hc0⟩ := ReadsInt.ofRowC w0
 obtain ⟨k, h⟩ := P l0 hm0 y0 hw0
 refine (laws_FnSumBytes.calls k _ _ l0 true w (Kd.C_of_reads (d := (0 : Int)) (h1 := fun _ => rfl) hr0) hc0 h).mono ?_
 rintro e w' ⟨rfl, hd⟩
 exact ⟨rfl, hd⟩

end Go.Proofs.Ytfklnhjipahonaa.HFnSumBytes
