/- Part 22 of the proof of the card of FnExactV: walks of the functions and plain facts on them. -/
import Derived.Test.YtlogcnglmdpejaaGreatDoorMV3
import Derived.Test.YtlogcnglmdpejaaGreatDoorMV19
import Derived.Test.YtlogcnglmdpejaaGreatDoorMV20
import Derived.Test.YtlogcnglmdpejaaGreatDoorMV21
section
namespace Go.Proofs.YtlogcnglmdpejaaGreatDoor.Pq
open Go.RowKit Go.Proofs.YtlogcnglmdpejaaGreatDoorW.PrintWords Go.Proofs.YtlogcnglmdpejaaGreatDoorW.PrintLast Go.Proofs.YtlogcnglmdpejaaGreatDoorW.PrintMore
attribute [local go_sem] max2_int min2_int max_two min_two max_three min_three max_four min_four
set_option linter.unusedVariables false
set_option linter.unusedSimpArgs false
def spec_l03Multiple.j0 : Nat → Int → Bool → Int → List Int → Option (Int × List Int × Int × Bool)
 | 0, _, _, _, _ => none
 | k + 1, x8, x11, x305000, x305001 => if x11 = true then ((spec_l02Of.f k 1).bind fun bt307 => ((spec_l02Add.f k x305000 x305001 bt307.1 bt307.2).bind fun bt311 => (some (bt311.1, bt311.2, x8, false)))) else (some (x305000, x305001, x8, false))
def spec_l03Multiple.f (k : Nat) (a0_0 : Int) (l0_1 : List Int) (a0_2 : Int) (a1 : Int) : Option (Int × List Int × Int × Bool) := (spec_l02Abs.f k a0_0 l0_1).bind fun bt290 => ((spec_l02Length.f k bt290.1 bt290.2).bind fun t295 => (if (wrap64 ((mx (wrap64 ((wrap64 (t295 + a0_2)) - 24)) (-149)) - a0_2)) ≤ 0 then ((spec_l02Left.f k bt290.1 bt290.2 (wrap64 (-(wrap64 ((mx (wrap64 ((wrap64 (t295 + a0_2)) - 24)) (-149)) - a0_2))))).bind fun bt296 => (some (bt296.1, bt296.2, mx (wrap64 ((wrap64 (t295 + a0_2)) - 24)) (-149), true))) else ((spec_l02Cut.f k bt290.1 bt290.2 (wrap64 ((mx (wrap64 ((wrap64 (t295 + a0_2)) - 24)) (-149)) - a0_2))).bind fun bt300 => (if a1 = 0 then ((spec_l02Bit.f bt290.1 bt290.2 (wrap64 ((wrap64 ((mx (wrap64 ((wrap64 (t295 + a0_2)) - 24)) (-149)) - a0_2)) - 1))).bind fun t305 => (if t305 = 1 then (if (wrap64 ((mx (wrap64 ((wrap64 (t295 + a0_2)) - 24)) (-149)) - a0_2)) > 1 then (spec_l03Multiple.j0 k (mx (wrap64 ((wrap64 (t295 + a0_2)) - 24)) (-149)) true bt300.1 bt300.2) else ((spec_l02Bit.f bt300.1 bt300.2 0).bind fun t306 => (spec_l03Multiple.j0 k (mx (wrap64 ((wrap64 (t295 + a0_2)) - 24)) (-149)) (t306 == 1) bt300.1 bt300.2))) else (spec_l03Multiple.j0 k (mx (wrap64 ((wrap64 (t295 + a0_2)) - 24)) (-149)) false bt300.1 bt300.2))) else none))))
def spec_l03Multiple.T2 : Bool × List (List Nat × List Nat) := (true, [([], []), ([0], [0]), ([], []), ([2], [2]), ([1, 3], [1, 3]), ([4], [4]), ([5], [5]), ([6, 1, 0, 1, 2, 3, 4, 5, 6], [6])])
def spec_l03Multiple.B2 : List Nat := [0, 1, 0, 4, 15, 31, 63, 127]
theorem spec_l03Multiple.tab2 : rtab .any (opsOf Tryz.f234 2) = spec_l03Multiple.T2 := by kernel_rfl
theorem spec_l03Multiple.bits2 : waitsOk spec_l03Multiple.T2.2 spec_l03Multiple.B2 = true := by kernel_rfl
set_option maxHeartbeats 8000000 in
set_option maxRecDepth 100000 in
theorem spec_l03Multiple.calls (k : Nat) (a0_0 : Int) (A0_1 : Option Addr) (c0_1 : Nat) (l0_1 : List Int) (a0_2 : Int) (a1 : Int) (r1 : Int) (r2 : List Int) (r3 : Int) (r4 : Bool) (w : World) (hr0_1 : Kd.C (Kd.int .i64) w A0_1 l0_1.length l0_1) (hc0_1 : l0_1.length ≤ c0_1) (h : spec_l03Multiple.f k a0_0 l0_1 a0_2 a1 = some (r1, r2, r3, r4)) :
  Calls Tryz.prog 234 #[.agg #[.int .i64 a0_0, .slice A0_1 l0_1.length c0_1, .int .i64 a0_2], .int .i64 a1] w fun e w' => ∃ v1_ : Value, e = .returned (.tuple #[.agg #[.int .i64 r1, v1_], .int .i64 r3, .bool r4]) ∧ Kd.R (Kd.int .i64) 2 w' w.heap.size (fun _ => True) v1_ r2 ∧ Below w.heap.size w w' := by
 have hu56 := Tryz.underlying56
 have hu54 := Tryz.underlying54
 have HR0_1 := As_.mk hr0_1
 have HC0_1 := As_.mk hc0_1
 clear hr0_1 hc0_1
 have HB := As_.mk (Below.refl w.heap.size w)
 have H : ((spec_l02Abs.f k a0_0 l0_1).bind fun bt290 => ((spec_l02Length.f k bt290.1 bt290.2).bind fun t295 => (if (wrap64 ((mx (wrap64 ((wrap64 (t295 + a0_2)) - 24)) (-149)) - a0_2)) ≤ 0 then ((spec_l02Left.f k bt290.1 bt290.2 (wrap64 (-(wrap64 ((mx (wrap64 ((wrap64 (t295 + a0_2)) - 24)) (-149)) - a0_2))))).bind fun bt296 => (some (bt296.1, bt296.2, mx (wrap64 ((wrap64 (t295 + a0_2)) - 24)) (-149), true))) else ((spec_l02Cut.f k bt290.1 bt290.2 (wrap64 ((mx (wrap64 ((wrap64 (t295 + a0_2)) - 24)) (-149)) - a0_2))).bind fun bt300 => (if a1 = 0 then ((spec_l02Bit.f bt290.1 bt290.2 (wrap64 ((wrap64 ((mx (wrap64 ((wrap64 (t295 + a0_2)) - 24)) (-149)) - a0_2)) - 1))).bind fun t305 => (if t305 = 1 then (if (wrap64 ((mx (wrap64 ((wrap64 (t295 + a0_2)) - 24)) (-149)) - a0_2)) > 1 then (spec_l03Multiple.j0 k (mx (wrap64 ((wrap64 (t295 + a0_2)) - 24)) (-149)) true bt300.1 bt300.2) else ((spec_l02Bit.f bt300.1 bt300.2 0).bind fun t306 => (spec_l03Multiple.j0 k (mx (wrap64 ((wrap64 (t295 + a0_2)) - 24)) (-149)) (t306 == 1) bt300.1 bt300.2))) else (spec_l03Multiple.j0 k (mx (wrap64 ((wrap64 (t295 + a0_2)) - 24)) (-149)) false bt300.1 bt300.2))) else none))))) = some (r1, r2, r3, r4) := h
 clear h
 replace H := Option.bind_eq_some_iff.mp H
 obtain ⟨⟨t290, t291⟩, A30, H⟩ := H
 replace H : ((spec_l02Length.f k t290 t291).bind fun t295 => (if (wrap64 ((mx (wrap64 ((wrap64 (t295 + a0_2)) - 24)) (-149)) - a0_2)) ≤ 0 then ((spec_l02Left.f k t290 t291 (wrap64 (-(wrap64 ((mx (wrap64 ((wrap64 (t295 + a0_2)) - 24)) (-149)) - a0_2))))).bind fun bt296 => (some (bt296.1, bt296.2, mx (wrap64 ((wrap64 (t295 + a0_2)) - 24)) (-149), true))) else ((spec_l02Cut.f k t290 t291 (wrap64 ((mx (wrap64 ((wrap64 (t295 + a0_2)) - 24)) (-149)) - a0_2))).bind fun bt300 => (if a1 = 0 then ((spec_l02Bit.f t290 t291 (wrap64 ((wrap64 ((mx (wrap64 ((wrap64 (t295 + a0_2)) - 24)) (-149)) - a0_2)) - 1))).bind fun t305 => (if t305 = 1 then (if (wrap64 ((mx (wrap64 ((wrap64 (t295 + a0_2)) - 24)) (-149)) - a0_2)) > 1 then (spec_l03Multiple.j0 k (mx (wrap64 ((wrap64 (t295 + a0_2)) - 24)) (-149)) true bt300.1 bt300.2) else ((spec_l02Bit.f bt300.1 bt300.2 0).bind fun t306 => (spec_l03Multiple.j0 k (mx (wrap64 ((wrap64 (t295 + a0_2)) - 24)) (-149)) (t306 == 1) bt300.1 bt300.2))) else (spec_l03Multiple.j0 k (mx (wrap64 ((wrap64 (t295 + a0_2)) - 24)) (-149)) false bt300.1 bt300.2))) else none)))) = some (r1, r2, r3, r4) := H
 have A3 := As_.mk A30
 clear A30
 replace H := Option.bind_eq_some_iff.mp H
 obtain ⟨t295, A40, H⟩ := H
 replace H : (if (wrap64 ((mx (wrap64 ((wrap64 (t295 + a0_2)) - 24)) (-149)) - a0_2)) ≤ 0 then ((spec_l02Left.f k t290 t291 (wrap64 (-(wrap64 ((mx (wrap64 ((wrap64 (t295 + a0_2)) - 24)) (-149)) - a0_2))))).bind fun bt296 => (some (bt296.1, bt296.2, mx (wrap64 ((wrap64 (t295 + a0_2)) - 24)) (-149), true))) else ((spec_l02Cut.f k t290 t291 (wrap64 ((mx (wrap64 ((wrap64 (t295 + a0_2)) - 24)) (-149)) - a0_2))).bind fun bt300 => (if a1 = 0 then ((spec_l02Bit.f t290 t291 (wrap64 ((wrap64 ((mx (wrap64 ((wrap64 (t295 + a0_2)) - 24)) (-149)) - a0_2)) - 1))).bind fun t305 => (if t305 = 1 then (if (wrap64 ((mx (wrap64 ((wrap64 (t295 + a0_2)) - 24)) (-149)) - a0_2)) > 1 then (spec_l03Multiple.j0 k (mx (wrap64 ((wrap64 (t295 + a0_2)) - 24)) (-149)) true bt300.1 bt300.2) else ((spec_l02Bit.f bt300.1 bt300.2 0).bind fun t306 => (spec_l03Multiple.j0 k (mx (wrap64 ((wrap64 (t295 + a0_2)) - 24)) (-149)) (t306 == 1) bt300.1 bt300.2))) else (spec_l03Multiple.j0 k (mx (wrap64 ((wrap64 (t295 + a0_2)) - 24)) (-149)) false bt300.1 bt300.2))) else none))) = some (r1, r2, r3, r4) := H
 have A4 := As_.mk A40
 clear A40
 obtain ⟨ji5, hji5⟩ : ∃ j_ : Int, (mx (wrap64 ((wrap64 (t295 + a0_2)) - 24)) (-149)) = j_ := ⟨_, rfl⟩
 replace H : (if (wrap64 ((ji5) - a0_2)) ≤ 0 then ((spec_l02Left.f k t290 t291 (wrap64 (-(wrap64 ((ji5) - a0_2))))).bind fun bt296 => (some (bt296.1, bt296.2, ji5, true))) else ((spec_l02Cut.f k t290 t291 (wrap64 ((ji5) - a0_2))).bind fun bt300 => (if a1 = 0 then ((spec_l02Bit.f t290 t291 (wrap64 ((wrap64 ((ji5) - a0_2)) - 1))).bind fun t305 => (if t305 = 1 then (if (wrap64 ((ji5) - a0_2)) > 1 then (spec_l03Multiple.j0 k ji5 true bt300.1 bt300.2) else ((spec_l02Bit.f bt300.1 bt300.2 0).bind fun t306 => (spec_l03Multiple.j0 k ji5 (t306 == 1) bt300.1 bt300.2))) else (spec_l03Multiple.j0 k ji5 false bt300.1 bt300.2))) else none))) = some (r1, r2, r3, r4) := by first | (rw [hji5] at H; exact H) | (simp only [hji5] at H ⊢; exact H)
 (try rw [hji5] at A3)
 (try rw [hji5] at A4)
 have hji5_ : (if (wrap64 ((wrap64 (t295 + a0_2)) - 24)) < (-149) then (-149) else (wrap64 ((wrap64 (t295 + a0_2)) - 24))) = ji5 := hji5
 by_cases c6 : (wrap64 ((ji5) - a0_2)) ≤ 0
 ·rw [if_pos c6] at H
  have c6b0 : decide ((wrap64 ((ji5) - a0_2)) ≤ 0) = true := decide_eq_true c6
  clear c6
  replace H := Option.bind_eq_some_iff.mp H
  obtain ⟨⟨t296, t297⟩, A70, H⟩ := H
  replace H : (some (t296, t297, ji5, true)) = some (r1, r2, r3, r4) := H
  have A7 := As_.mk A70
  clear A70
  simp only [Option.some.injEq, Prod.mk.injEq] at H
  obtain ⟨rfl, rfl, rfl, rfl⟩ := H
  go_enter Tryz.func234, Tryz.ntmps234
  try go_wp2_with (first | ((with_reducible refine gate_dst (N := 2) rfl ?_); refine box_event ?hg (N := 2) ?hd (cs := #[.int .i64 a0_0, .slice A0_1 l0_1.length c0_1, .int .i64 a0_2]) (t := 56) ?hr ?_; (case hd => rfl); (case hg => rfl); (case hr => first | (go_simp; done) | (go_simp; rfl)); intro gb288 hg w8 hbox hb; have n0_ := As_.mk (bp_ (by repeat (first | (with_reducible first | exact HB.out | apply ba_ | apply pN_ | apply bd_) | exact HB.out)) hb); have n1_ := As_.mk (hbox); have n2_ := As_.mk ((by rw [hg]; exact (bz_ (by repeat (first | (with_reducible first | exact HB.out | apply ba_ | apply pN_ | apply bd_) | exact HB.out))) : w.heap.size ≤ gb288)); have n3_ := As_.mk ((by rw [hg]; exact (bz_ (by repeat (first | (with_reducible first | exact HB.out | apply ba_ | apply pN_ | apply bd_) | exact HB.out))) : w.heap.size ≤ gb288)); clear HB; have HB := n0_; have BK288 := n1_; have GW288 := n2_; have GE288 := n3_; clear n0_ n1_ n2_ n3_; clear hb hbox hg) | ((with_reducible refine gate_dst (N := 4) rfl ?_); refine box_event ?hg (N := 4) ?hd (cs := #[.int .i64 0, .slice none 0 0]) (t := 54) ?hr ?_; (case hd => rfl); (case hg => rfl); (case hr => first | (go_simp; done) | (go_simp; rfl)); intro gb289 hg w9 hbox hb; have n0_ := As_.mk (kb_ (g := gb288) (o := .cells #[.int .i64 a0_0, .slice A0_1 l0_1.length c0_1, .int .i64 a0_2] 56 (0, 0)) (by (with_reducible repeat (first | refine kN_ ?_ _ | refine kd_ ?_ | refine ka_ ?_ _)); exact BK288.out) hb); have n1_ := As_.mk (bp_ (by repeat (first | (with_reducible first | exact HB.out | apply ba_ | apply pN_ | apply bd_ | refine bs_ ?_ GE288.out) | exact HB.out)) hb); have n2_ := As_.mk (hbox); have n3_ := As_.mk ((by rw [hg]; exact (bz_ (by repeat (first | (with_reducible first | exact HB.out | apply ba_ | apply pN_ | apply bd_ | refine bs_ ?_ GE288.out) | exact HB.out))) : w.heap.size ≤ gb289)); have n4_ := As_.mk ((by rw [hg]; exact (bz_ (by repeat (first | (with_reducible first | exact HB.out | apply ba_ | apply pN_ | apply bd_ | refine bs_ ?_ GE288.out) | exact HB.out))) : w.heap.size ≤ gb289)); have n5_ := As_.mk ((by rw [hg]; exact Nat.ne_of_lt (blk_lt (g := gb288) (o := .cells #[.int .i64 a0_0, .slice A0_1 l0_1.length c0_1, .int .i64 a0_2] 56 (0, 0)) (by (with_reducible repeat (first | refine kN_ ?_ _ | refine kd_ ?_ | refine ka_ ?_ _)); exact BK288.out)) : gb288 ≠ gb289)); have n6_ := As_.mk ((by rw [hg]; exact Nat.ne_of_gt (blk_lt (g := gb288) (o := .cells #[.int .i64 a0_0, .slice A0_1 l0_1.length c0_1, .int .i64 a0_2] 56 (0, 0)) (by (with_reducible repeat (first | refine kN_ ?_ _ | refine kd_ ?_ | refine ka_ ?_ _)); exact BK288.out)) : gb289 ≠ gb288)); clear BK288; clear HB; have BK288 := n0_; have HB := n1_; have BK289 := n2_; have GW289 := n3_; have GE289 := n4_; have NB288_289 := n5_; have NB289_288 := n6_; clear n0_ n1_ n2_ n3_ n4_ n5_ n6_; clear hb hbox hg; have hnb10 := NB288_289.out; have hnc10 := NB289_288.out; have hcz11_0 : w9.cell? ⟨gb288, 0, none⟩ = some (.int .i64 a0_0) := (kc_ BK288.out 0).trans rfl; have hcz11_1 : w9.cell? ⟨gb288, 1, none⟩ = some (.slice A0_1 l0_1.length c0_1) := (kc_ BK288.out 1).trans rfl; have hcz11_2 : w9.cell? ⟨gb288, 2, none⟩ = some (.int .i64 a0_2) := (kc_ BK288.out 2).trans rfl; have hfz11_0 := kf_ BK288.out 0; have hfz11_1 := kf_ BK288.out 1; have hfz11_2 := kf_ BK288.out 2) | ((with_reducible refine gate_callee (f := 165) rfl ?_); refine goesL_ (some 14) rfl rfl Tryz.func165 (by kernel_rfl) rfl #[.agg #[.int .i64 a0_0, .slice A0_1 l0_1.length c0_1]] rfl (by (try simp only [List.map_toArray, List.map_cons, List.map_nil]); first | done | rfl | (simp only [List.length_drop, List.length_take]; rfl)) ?_; (with_reducible refine (spec_l02Abs.calls k a0_0 _ _ l0_1 t290 t291 _ ?side1 ?side2 A3.out).mono ?_); (case side1 => repeat (first | exact (Kd.C_below HR0_1.out HB.out) | (with_reducible refine Kd.C_alloc ?_ _) | (with_reducible refine Kd.C_drewN ?_ _) | (with_reducible refine Kd.C_drew ?_))); (case side2 => exact HC0_1.out); rintro e w12 ⟨v292, rfl, ho0, hb⟩; refine ⟨_, rfl, ?_⟩; have n0_ := As_.mk (Kd.R_lower ho0 (bz_ (by repeat (first | (with_reducible first | exact HB.out | apply ba_ | apply pN_ | apply bd_ | refine bs_ ?_ GE288.out | refine bs_ ?_ GE289.out) | exact HB.out)))); have n1_ := As_.mk (kb_ (g := gb288) (o := .cells #[.int .i64 a0_0, .slice A0_1 l0_1.length c0_1, .int .i64 a0_2] 56 (0, 0)) (by (with_reducible repeat (first | refine kN_ ?_ _ | refine kd_ ?_ | refine ka_ ?_ _)); exact BK288.out) hb); have n2_ := As_.mk (kb_ (g := gb289) (o := .cells #[.int .i64 0, .slice none 0 0] 54 (0, 0)) (by (with_reducible repeat (first | refine kN_ ?_ _ | refine kd_ ?_ | refine ka_ ?_ _)); exact BK289.out) hb); have n3_ := As_.mk (bp_ (by repeat (first | (with_reducible first | exact HB.out | apply ba_ | apply pN_ | apply bd_ | refine bs_ ?_ GE288.out | refine bs_ ?_ GE289.out) | exact HB.out)) hb); clear BK288; clear BK289; clear HB; have HO293 := n0_; have BK288 := n1_; have BK289 := n2_; have HB := n3_; clear n0_ n1_ n2_ n3_; (try clear hb); (try clear hb2); (try clear hk); (try clear hi); (try clear ho0)) | ((with_reducible refine gate_dst (N := 7) rfl ?_); refine box_event ?hg (N := 7) ?hd (cs := #[.int .i64 0, .slice none 0 0]) (t := 54) ?hr ?_; (case hd => rfl); (case hg => rfl); (case hr => first | (go_simp; done) | (go_simp; rfl)); intro gb294 hg w13 hbox hb; have n0_ := As_.mk (Kd.R_below (by (with_reducible repeat (first | apply Kd.R_alloc | apply Kd.R_drewN | apply Kd.R_drew)); exact HO293.out) hb); have n1_ := As_.mk (kb_ (g := gb288) (o := .cells #[.int .i64 a0_0, .slice A0_1 l0_1.length c0_1, .int .i64 a0_2] 56 (0, 0)) (by (with_reducible repeat (first | refine kN_ ?_ _ | refine kd_ ?_ | refine ka_ ?_ _)); exact BK288.out) hb); have n2_ := As_.mk (kb_ (g := gb289) (o := .cells #[.int .i64 0, .slice none 0 0] 54 (0, 0)) (by (with_reducible repeat (first | refine kN_ ?_ _ | refine kd_ ?_ | refine ka_ ?_ _)); exact BK289.out) hb); have n3_ := As_.mk (bp_ (by repeat (first | (with_reducible first | exact HB.out | apply ba_ | apply pN_ | apply bd_ | refine bs_ ?_ GE288.out | refine bs_ ?_ GE289.out) | exact HB.out)) hb); have n4_ := As_.mk (hbox); have n5_ := As_.mk ((by rw [hg]; exact (bz_ (by repeat (first | (with_reducible first | exact HB.out | apply ba_ | apply pN_ | apply bd_ | refine bs_ ?_ GE288.out | refine bs_ ?_ GE289.out) | exact HB.out))) : w.heap.size ≤ gb294)); have n6_ := As_.mk ((by rw [hg]; exact (bz_ (by repeat (first | (with_reducible first | exact HB.out | apply ba_ | apply pN_ | apply bd_ | refine bs_ ?_ GE288.out | refine bs_ ?_ GE289.out) | exact HB.out))) : w.heap.size ≤ gb294)); have n7_ := As_.mk ((by rw [hg]; exact Nat.ne_of_lt (blk_lt (g := gb288) (o := .cells #[.int .i64 a0_0, .slice A0_1 l0_1.length c0_1, .int .i64 a0_2] 56 (0, 0)) (by (with_reducible repeat (first | refine kN_ ?_ _ | refine kd_ ?_ | refine ka_ ?_ _)); exact BK288.out)) : gb288 ≠ gb294)); have n8_ := As_.mk ((by rw [hg]; exact Nat.ne_of_gt (blk_lt (g := gb288) (o := .cells #[.int .i64 a0_0, .slice A0_1 l0_1.length c0_1, .int .i64 a0_2] 56 (0, 0)) (by (with_reducible repeat (first | refine kN_ ?_ _ | refine kd_ ?_ | refine ka_ ?_ _)); exact BK288.out)) : gb294 ≠ gb288)); have n9_ := As_.mk ((by rw [hg]; exact Nat.ne_of_lt (blk_lt (g := gb289) (o := .cells #[.int .i64 0, .slice none 0 0] 54 (0, 0)) (by (with_reducible repeat (first | refine kN_ ?_ _ | refine kd_ ?_ | refine ka_ ?_ _)); exact BK289.out)) : gb289 ≠ gb294)); have n10_ := As_.mk ((by rw [hg]; exact Nat.ne_of_gt (blk_lt (g := gb289) (o := .cells #[.int .i64 0, .slice none 0 0] 54 (0, 0)) (by (with_reducible repeat (first | refine kN_ ?_ _ | refine kd_ ?_ | refine ka_ ?_ _)); exact BK289.out)) : gb294 ≠ gb289)); clear HO293; clear BK288; clear BK289; clear HB; have HO293 := n0_; have BK288 := n1_; have BK289 := n2_; have HB := n3_; have BK294 := n4_; have GW294 := n5_; have GE294 := n6_; have NB288_294 := n7_; have NB294_288 := n8_; have NB289_294 := n9_; have NB294_289 := n10_; clear n0_ n1_ n2_ n3_ n4_ n5_ n6_ n7_ n8_ n9_ n10_; clear hb hbox hg; have hnb14 := NB294_288.out; have hnc14 := NB288_294.out; have hnb15 := NB294_289.out; have hnc15 := NB289_294.out; have hcz16_0 : w13.cell? ⟨gb294, 0, none⟩ = some (.int .i64 0) := (kc_ BK294.out 0).trans rfl; have hcz16_1 : w13.cell? ⟨gb294, 1, none⟩ = some (.slice none 0 0) := (kc_ BK294.out 1).trans rfl; have hfz16_0 := kf_ BK294.out 0; have hfz16_1 := kf_ BK294.out 1; obtain ⟨Ao17, co17, eo17⟩ := Kd.R_slice HO293.out; subst eo17))
  have n0_ : As_ (Kd.R (Kd.int .i64) 2 ((w13.setCell ⟨gb294, 0, none⟩ (.int .i64 t290)).setCell ⟨gb294, 1, none⟩ (.slice Ao17 t291.length co17)) w.heap.size (fun _ => True) (.slice Ao17 t291.length co17) t291) := ⟨by (with_reducible repeat (first | apply Kd.R_alloc | apply Kd.R_drewN | apply Kd.R_drew)); exact Kd.R_mono (Kd.R_far (p := ⟨gb294, 1, none⟩) (Kd.R_far (p := ⟨gb294, 0, none⟩) (Kd.R_types HO293.out BK294.out (by decide)) (fun _ hk => hk.2) (.int .i64 t290)) (fun _ hk => hk.2) (.slice Ao17 t291.length co17)) (fun _ hk => trivial)⟩
  have n1_ : As_ (((w13.setCell ⟨gb294, 0, none⟩ (.int .i64 t290)).setCell ⟨gb294, 1, none⟩ (.slice Ao17 t291.length co17)).heap[gb288]? = some (.cells #[.int .i64 a0_0, .slice A0_1 l0_1.length c0_1, .int .i64 a0_2] 56 (0, 0))) := ⟨by (with_reducible repeat (first | refine kN_ ?_ _ | refine kd_ ?_ | refine ka_ ?_ _)); refine blk_far ?_ NB288_294.out _; (with_reducible repeat (first | refine kN_ ?_ _ | refine kd_ ?_ | refine ka_ ?_ _)); refine blk_far ?_ NB288_294.out _; (with_reducible repeat (first | refine kN_ ?_ _ | refine kd_ ?_ | refine ka_ ?_ _)); exact BK288.out⟩
  have n2_ : As_ (((w13.setCell ⟨gb294, 0, none⟩ (.int .i64 t290)).setCell ⟨gb294, 1, none⟩ (.slice Ao17 t291.length co17)).heap[gb289]? = some (.cells #[.int .i64 0, .slice none 0 0] 54 (0, 0))) := ⟨by (with_reducible repeat (first | refine kN_ ?_ _ | refine kd_ ?_ | refine ka_ ?_ _)); refine blk_far ?_ NB289_294.out _; (with_reducible repeat (first | refine kN_ ?_ _ | refine kd_ ?_ | refine ka_ ?_ _)); refine blk_far ?_ NB289_294.out _; (with_reducible repeat (first | refine kN_ ?_ _ | refine kd_ ?_ | refine ka_ ?_ _)); exact BK289.out⟩
  have n3_ : As_ (((w13.setCell ⟨gb294, 0, none⟩ (.int .i64 t290)).setCell ⟨gb294, 1, none⟩ (.slice Ao17 t291.length co17)).heap[gb294]? = some (.cells #[.int .i64 t290, .slice Ao17 t291.length co17] 54 (0, 0))) := ⟨by (with_reducible repeat (first | refine kN_ ?_ _ | refine kd_ ?_ | refine ka_ ?_ _)); refine blk_put (cs := #[.int .i64 t290, .slice none 0 0]) ?_ 1 _ rfl; (with_reducible repeat (first | refine kN_ ?_ _ | refine kd_ ?_ | refine ka_ ?_ _)); refine blk_put (cs := #[.int .i64 0, .slice none 0 0]) ?_ 0 _ rfl; (with_reducible repeat (first | refine kN_ ?_ _ | refine kd_ ?_ | refine ka_ ?_ _)); exact BK294.out⟩
  have n4_ : As_ (Below w.heap.size w ((w13.setCell ⟨gb294, 0, none⟩ (.int .i64 t290)).setCell ⟨gb294, 1, none⟩ (.slice Ao17 t291.length co17))) := ⟨by repeat (first | (with_reducible first | exact HB.out | apply ba_ | apply pN_ | apply bd_ | refine bs_ ?_ GE288.out | refine bs_ ?_ GE289.out | refine bs_ ?_ GE294.out) | exact HB.out)⟩
  (try clear HO293)
  (try clear BK288)
  (try clear BK289)
  (try clear BK294)
  (try clear HB)
  generalize ((w13.setCell ⟨gb294, 0, none⟩ (.int .i64 t290)).setCell ⟨gb294, 1, none⟩ (.slice Ao17 t291.length co17)) = w18 at n0_ n1_ n2_ n3_ n4_ ⊢
  have HO293 := n0_
  have BK288 := n1_
  have BK289 := n2_
  have BK294 := n3_
  have HB := n4_
  clear n0_ n1_ n2_ n3_ n4_
  have n0_ := As_.mk (Kd.R_drew HO293.out)
  have n1_ := As_.mk (kd_ BK288.out)
  have n2_ := As_.mk (kd_ BK289.out)
  have n3_ := As_.mk (kd_ BK294.out)
  have n4_ := As_.mk (bd_ HB.out)
  clear HO293
  clear BK288
  clear BK289
  clear BK294
  clear HB
  have HO293 := n0_
  have BK288 := n1_
  have BK289 := n2_
  have BK294 := n3_
  have HB := n4_
  clear n0_ n1_ n2_ n3_ n4_
  refine start_ (n := 8) (S := fun w' => w'.cell? ⟨gb294, 0, none⟩ = some (.int .i64 t290) ∧ w'.cell? ⟨gb294, 1, none⟩ = some (.slice Ao17 t291.length co17) ∧ w'.cell? ⟨gb288, 0, none⟩ = some (.int .i64 a0_0) ∧ w'.cell? ⟨gb288, 1, none⟩ = some (.slice A0_1 l0_1.length c0_1) ∧ w'.cell? ⟨gb288, 2, none⟩ = some (.int .i64 a0_2)) (ds := []) #[false, false, false, false, false, false, false, false] (by kernel_rfl) rfl rfl ⟨(kc_ BK294.out 0).trans rfl, (kc_ BK294.out 1).trans rfl, (kc_ BK288.out 0).trans rfl, (kc_ BK288.out 1).trans rfl, (kc_ BK288.out 2).trans rfl⟩ (fun hHeld => ?_); refine with_tabW spec_l03Multiple.tab2 spec_l03Multiple.bits2 (fun HT_ HW_ => ?_)
  generalize w18.drew = w19 at HO293 BK288 BK289 BK294 HB hHeld ⊢
  refine pure_ (i := 2) (N := some 17) (v := ?_) (a' := ?_) #[false, false, true, false, false, false, false, false] rfl rfl (any_of HT_.out (by kernel_rfl)) (fun _ _ _ h => h) (Or.inl ⟨by rfl, ?_⟩) ?_ ?_
  rotate_left
  ·intro w'
   go_simp
   with_reducible rfl
  rotate_left
  ·simp only [Act.put, List.setIfInBounds_toArray, List.set_cons_zero, List.set_cons_succ, i64_w, i32_w]
   rfl
  refine take_ (i := 0) (N := some 15) (v := ?_) (a' := ?_) #[true, false, true, false, false, false, false, false] rfl rfl (take_ofW HT_.out HW_.out (by kernel_rfl)) (fun _ _ _ h => h) (Or.inl ⟨by rfl, ?_⟩) hHeld ?_ ?_
  rotate_left
  ·rintro w' ⟨s0, s1, s2, s3, s4⟩
   go_simp
   with_reducible rfl
  rotate_left
  ·simp only [Act.put, List.setIfInBounds_toArray, List.set_cons_zero, List.set_cons_succ, i64_w, i32_w]
   rfl
  refine take_ (i := 3) (N := some 18) (v := ?_) (a' := ?_) #[true, false, true, true, false, false, false, false] rfl rfl (take_ofW HT_.out HW_.out (by kernel_rfl)) (fun _ _ _ h => h) (Or.inl ⟨by rfl, ?_⟩) hHeld ?_ ?_
  rotate_left
  ·rintro w' ⟨s0, s1, s2, s3, s4⟩
   go_simp
   with_reducible rfl
  rotate_left
  ·simp only [Act.put, List.setIfInBounds_toArray, List.set_cons_zero, List.set_cons_succ, i64_w, i32_w]
   rfl
  refine one_ (i := 1) (N := some 16) #[true, true, true, true, false, false, false, false] rfl rfl (one_of HT_.out (by kernel_rfl)) (by decide) (fun K hK => ?_)
  refine goes_ Tryz.func235 (by kernel_rfl) rfl #[.agg #[.int .i64 t290, .slice Ao17 t291.length co17]] (by rfl) rfl rfl (by (try simp only [List.map_toArray, List.map_cons, List.map_nil]); first | done | rfl | (simp only [List.length_drop, List.length_take]; rfl)) ?_
  with_reducible refine (spec_l02Length.calls k t290 _ _ t291 t295 _ ?side1 ?side2 A4.out).mono ?_
  (case side1 => repeat (first | exact (Kd.R_reads' HO293.out).2.2 | (with_reducible refine Kd.C_alloc ?_ _) | (with_reducible refine Kd.C_drewN ?_ _) | (with_reducible refine Kd.C_drew ?_)))
  (case side2 => exact (Kd.R_reads' HO293.out).2.1)
  rintro e w20 ⟨rfl, hb⟩
  refine ⟨_, rfl, ?_⟩
  have n0_ := As_.mk (Kd.R_below (by (with_reducible repeat (first | apply Kd.R_alloc | apply Kd.R_drewN | apply Kd.R_drew)); exact HO293.out) hb)
  have n1_ := As_.mk (kb_ (g := gb288) (o := .cells #[.int .i64 a0_0, .slice A0_1 l0_1.length c0_1, .int .i64 a0_2] 56 (0, 0)) (by (with_reducible repeat (first | refine kN_ ?_ _ | refine kd_ ?_ | refine ka_ ?_ _)); exact BK288.out) hb)
  have n2_ := As_.mk (kb_ (g := gb289) (o := .cells #[.int .i64 0, .slice none 0 0] 54 (0, 0)) (by (with_reducible repeat (first | refine kN_ ?_ _ | refine kd_ ?_ | refine ka_ ?_ _)); exact BK289.out) hb)
  have n3_ := As_.mk (kb_ (g := gb294) (o := .cells #[.int .i64 t290, .slice Ao17 t291.length co17] 54 (0, 0)) (by (with_reducible repeat (first | refine kN_ ?_ _ | refine kd_ ?_ | refine ka_ ?_ _)); exact BK294.out) hb)
  have n4_ := As_.mk (bp_ (by repeat (first | (with_reducible first | exact HB.out | apply ba_ | apply pN_ | apply bd_ | refine bs_ ?_ GE288.out | refine bs_ ?_ GE289.out | refine bs_ ?_ GE294.out) | exact HB.out)) hb)
  clear HO293
  clear BK288
  clear BK289
  clear BK294
  clear HB
  have HO293 := n0_
  have BK288 := n1_
  have BK289 := n2_
  have BK294 := n3_
  have HB := n4_
  clear n0_ n1_ n2_ n3_ n4_
  (try clear hb)
  (try clear hb2)
  (try clear hk)
  (try clear hi)
  refine hK.out _ _ ⟨(kc_ BK294.out 0).trans rfl, (kc_ BK294.out 1).trans rfl, (kc_ BK288.out 0).trans rfl, (kc_ BK288.out 1).trans rfl, (kc_ BK288.out 2).trans rfl⟩ (fun hHeld => ?_)
  clear hK K
  refine norm_ (a' := ?_) ?_ ?_
  rotate_left
  ·show Act.put _ (some 16) _ = _
   simp only [Act.put, List.setIfInBounds_toArray, List.set_cons_zero, List.set_cons_succ, i64_w, i32_w]
   rfl
  refine pure_ (i := 4) (N := some 19) (v := ?_) (a' := ?_) #[true, true, true, true, true, false, false, false] rfl rfl (any_of HT_.out (by kernel_rfl)) (fun _ _ _ h => h) (Or.inl ⟨by rfl, ?_⟩) ?_ ?_
  rotate_left
  ·intro w'
   go_simp
   with_reducible rfl
  rotate_left
  ·simp only [Act.put, List.setIfInBounds_toArray, List.set_cons_zero, List.set_cons_succ, i64_w, i32_w]
   rfl
  refine pure_ (i := 5) (N := some 20) (v := ?_) (a' := ?_) #[true, true, true, true, true, true, false, false] rfl rfl (any_of HT_.out (by kernel_rfl)) (fun _ _ _ h => h) (Or.inl ⟨by rfl, ?_⟩) ?_ ?_
  rotate_left
  ·intro w'
   go_simp
   with_reducible rfl
  rotate_left
  ·simp only [Act.put, List.setIfInBounds_toArray, List.set_cons_zero, List.set_cons_succ, i64_w, i32_w]
   rfl
  refine pure_ (i := 6) (N := some 21) (v := ?_) (a' := ?_) #[true, true, true, true, true, true, true, false] rfl rfl (any_of HT_.out (by kernel_rfl)) (fun _ _ _ h => h) (Or.inl ⟨by rfl, ?_⟩) ?_ ?_
  rotate_left
  ·intro w'
   go_simp
   with_reducible rfl
  rotate_left
  ·simp only [Act.put, List.setIfInBounds_toArray, List.set_cons_zero, List.set_cons_succ, i64_w, i32_w]
   rfl
  refine pure_ (i := 7) (N := some 8) (v := ?_) (a' := ?_) #[true, true, true, true, true, true, true, true] rfl rfl (any_of HT_.out (by kernel_rfl)) (fun _ _ _ h => h) (Or.inl ⟨by rfl, ?_⟩) ?_ ?_
  rotate_left
  ·intro w'
   go_simp
   with_reducible rfl
  rotate_left
  ·simp only [Act.put, List.setIfInBounds_toArray, List.set_cons_zero, List.set_cons_succ, i64_w, i32_w]
   rfl
  refine done_ (done_of HT_.out (by kernel_rfl)) ?_
  have hcz21_0 : w20.cell? ⟨gb288, 0, none⟩ = some (.int .i64 a0_0) := (kc_ BK288.out 0).trans rfl
  have hcz21_1 : w20.cell? ⟨gb288, 1, none⟩ = some (.slice A0_1 l0_1.length c0_1) := (kc_ BK288.out 1).trans rfl
  have hcz21_2 : w20.cell? ⟨gb288, 2, none⟩ = some (.int .i64 a0_2) := (kc_ BK288.out 2).trans rfl
  have hfz21_0 := kf_ BK288.out 0
  have hfz21_1 := kf_ BK288.out 1
  have hfz21_2 := kf_ BK288.out 2
  have hcz22_0 : w20.cell? ⟨gb294, 0, none⟩ = some (.int .i64 t290) := (kc_ BK294.out 0).trans rfl
  have hcz22_1 : w20.cell? ⟨gb294, 1, none⟩ = some (.slice Ao17 t291.length co17) := (kc_ BK294.out 1).trans rfl
  have hfz22_0 := kf_ BK294.out 0
  have hfz22_1 := kf_ BK294.out 1
  try go_wp2_with (first | ((with_reducible refine gate_callee (f := 216) rfl ?_); refine goesL_ (some 31) rfl rfl Tryz.func216 (by kernel_rfl) rfl #[.agg #[.int .i64 t290, .slice Ao17 t291.length co17], .int .i64 (wrap64 (-(wrap64 ((ji5) - a0_2))))] rfl (by (try simp only [List.map_toArray, List.map_cons, List.map_nil]); first | done | (simp only [hji5]; rfl) | rfl | (simp only [List.length_drop, List.length_take]; rfl)) ?_; (with_reducible refine (spec_l02Left.calls k t290 _ _ t291 (wrap64 (-(wrap64 ((ji5) - a0_2)))) t296 t297 _ ?side1 ?side2 A7.out).mono ?_); (case side1 => repeat (first | exact (Kd.R_reads' HO293.out).2.2 | (with_reducible refine Kd.C_alloc ?_ _) | (with_reducible refine Kd.C_drewN ?_ _) | (with_reducible refine Kd.C_drew ?_))); (case side2 => exact (Kd.R_reads' HO293.out).2.1); rintro e w23 ⟨v298, rfl, ho0, hb⟩; refine ⟨_, rfl, ?_⟩; have n0_ := As_.mk (Kd.R_elder' (by (with_reducible repeat (first | apply Kd.R_alloc | apply Kd.R_drewN | apply Kd.R_drew)); exact HO293.out) (Kd.R_base ho0) hb); have n1_ := As_.mk (Kd.R_lower (Kd.R_new' ho0 (Kd.R_lt (by (with_reducible repeat (first | apply Kd.R_alloc | apply Kd.R_drewN | apply Kd.R_drew)); exact HO293.out))) (bz_ (by repeat (first | (with_reducible first | exact HB.out | apply ba_ | apply pN_ | apply bd_ | refine bs_ ?_ GE288.out | refine bs_ ?_ GE289.out | refine bs_ ?_ GE294.out) | exact HB.out)))); have n2_ := As_.mk (kb_ (g := gb288) (o := .cells #[.int .i64 a0_0, .slice A0_1 l0_1.length c0_1, .int .i64 a0_2] 56 (0, 0)) (by (with_reducible repeat (first | refine kN_ ?_ _ | refine kd_ ?_ | refine ka_ ?_ _)); exact BK288.out) hb); have n3_ := As_.mk (kb_ (g := gb289) (o := .cells #[.int .i64 0, .slice none 0 0] 54 (0, 0)) (by (with_reducible repeat (first | refine kN_ ?_ _ | refine kd_ ?_ | refine ka_ ?_ _)); exact BK289.out) hb); have n4_ := As_.mk (kb_ (g := gb294) (o := .cells #[.int .i64 t290, .slice Ao17 t291.length co17] 54 (0, 0)) (by (with_reducible repeat (first | refine kN_ ?_ _ | refine kd_ ?_ | refine ka_ ?_ _)); exact BK294.out) hb); have n5_ := As_.mk (bp_ (by repeat (first | (with_reducible first | exact HB.out | apply ba_ | apply pN_ | apply bd_ | refine bs_ ?_ GE288.out | refine bs_ ?_ GE289.out | refine bs_ ?_ GE294.out) | exact HB.out)) hb); clear HO293; clear BK288; clear BK289; clear BK294; clear HB; have HO293 := n0_; have HO299 := n1_; have BK288 := n2_; have BK289 := n3_; have BK294 := n4_; have HB := n5_; clear n0_ n1_ n2_ n3_ n4_ n5_; (try clear hb); (try clear hb2); (try clear hk); (try clear hi); (try clear ho0); have hcz24_0 : w23.cell? ⟨gb289, 0, none⟩ = some (.int .i64 0) := (kc_ BK289.out 0).trans rfl; have hcz24_1 : w23.cell? ⟨gb289, 1, none⟩ = some (.slice none 0 0) := (kc_ BK289.out 1).trans rfl; have hfz24_0 := kf_ BK289.out 0; have hfz24_1 := kf_ BK289.out 1; obtain ⟨Ao25, co25, eo25⟩ := Kd.R_slice HO299.out; subst eo25))
  refine bodyPost_ret (results_ctt rfl _ _ gb289 54 #[.int .i64 t296, .slice Ao25 t297.length co25] (0, 0) _ rfl (by (with_reducible repeat (first | refine kN_ ?_ _ | refine kd_ ?_ | refine ka_ ?_ _)); refine blk_put (cs := #[.int .i64 t296, .slice none 0 0]) ?_ 1 _ rfl; (with_reducible repeat (first | refine kN_ ?_ _ | refine kd_ ?_ | refine ka_ ?_ _)); refine blk_put (cs := #[.int .i64 0, .slice none 0 0]) ?_ 0 _ rfl; (with_reducible repeat (first | refine kN_ ?_ _ | refine kd_ ?_ | refine ka_ ?_ _)); exact BK289.out) Tryz.underlying54 rfl (by kernel_rfl)) rfl ?_
  exact ⟨_, by first | rfl | (simp [eN_, eS_] <;> rfl) | (simp only [← hji5]; first | rfl | (simp [eN_, eS_] <;> rfl)) | (simp [*, eN_, eS_] <;> rfl), by (with_reducible repeat (first | apply Kd.R_alloc | apply Kd.R_drewN | apply Kd.R_drew)); exact Kd.R_mono (Kd.R_far (p := ⟨gb289, 1, none⟩) (Kd.R_far (p := ⟨gb289, 0, none⟩) (Kd.R_types HO299.out BK289.out (by decide)) (fun _ hk => hk.2) (.int .i64 t296)) (fun _ hk => hk.2) (.slice Ao25 t297.length co25)) (fun _ hk => trivial), by repeat (first | (with_reducible first | exact HB.out | apply ba_ | apply pN_ | apply bd_ | refine bs_ ?_ GE288.out | refine bs_ ?_ GE289.out | refine bs_ ?_ GE294.out) | exact HB.out)⟩
 ·rw [if_neg c6] at H
  have c6b0 : decide ((wrap64 ((ji5) - a0_2)) ≤ 0) = false := decide_eq_false c6
  clear c6
  replace H := Option.bind_eq_some_iff.mp H
  obtain ⟨⟨t300, t301⟩, A260, H⟩ := H
  replace H : (if a1 = 0 then ((spec_l02Bit.f t290 t291 (wrap64 ((wrap64 ((ji5) - a0_2)) - 1))).bind fun t305 => (if t305 = 1 then (if (wrap64 ((ji5) - a0_2)) > 1 then (spec_l03Multiple.j0 k ji5 true t300 t301) else ((spec_l02Bit.f t300 t301 0).bind fun t306 => (spec_l03Multiple.j0 k ji5 (t306 == 1) t300 t301))) else (spec_l03Multiple.j0 k ji5 false t300 t301))) else none) = some (r1, r2, r3, r4) := H
  have A26 := As_.mk A260
  clear A260
  have HC27 := As_.mk H
  clear H
  go_enter Tryz.func234, Tryz.ntmps234
  try go_wp2_with (first | ((with_reducible refine gate_dst (N := 2) rfl ?_); refine box_event ?hg (N := 2) ?hd (cs := #[.int .i64 a0_0, .slice A0_1 l0_1.length c0_1, .int .i64 a0_2]) (t := 56) ?hr ?_; (case hd => rfl); (case hg => rfl); (case hr => first | (go_simp; done) | (go_simp; rfl)); intro gb288 hg w28 hbox hb; have n0_ := As_.mk (bp_ (by repeat (first | (with_reducible first | exact HB.out | apply ba_ | apply pN_ | apply bd_) | exact HB.out)) hb); have n1_ := As_.mk (hbox); have n2_ := As_.mk ((by rw [hg]; exact (bz_ (by repeat (first | (with_reducible first | exact HB.out | apply ba_ | apply pN_ | apply bd_) | exact HB.out))) : w.heap.size ≤ gb288)); have n3_ := As_.mk ((by rw [hg]; exact (bz_ (by repeat (first | (with_reducible first | exact HB.out | apply ba_ | apply pN_ | apply bd_) | exact HB.out))) : w.heap.size ≤ gb288)); clear HB; have HB := n0_; have BK288 := n1_; have GW288 := n2_; have GE288 := n3_; clear n0_ n1_ n2_ n3_; clear hb hbox hg) | ((with_reducible refine gate_dst (N := 4) rfl ?_); refine box_event ?hg (N := 4) ?hd (cs := #[.int .i64 0, .slice none 0 0]) (t := 54) ?hr ?_; (case hd => rfl); (case hg => rfl); (case hr => first | (go_simp; done) | (go_simp; rfl)); intro gb289 hg w29 hbox hb; have n0_ := As_.mk (kb_ (g := gb288) (o := .cells #[.int .i64 a0_0, .slice A0_1 l0_1.length c0_1, .int .i64 a0_2] 56 (0, 0)) (by (with_reducible repeat (first | refine kN_ ?_ _ | refine kd_ ?_ | refine ka_ ?_ _)); exact BK288.out) hb); have n1_ := As_.mk (bp_ (by repeat (first | (with_reducible first | exact HB.out | apply ba_ | apply pN_ | apply bd_ | refine bs_ ?_ GE288.out) | exact HB.out)) hb); have n2_ := As_.mk (hbox); have n3_ := As_.mk ((by rw [hg]; exact (bz_ (by repeat (first | (with_reducible first | exact HB.out | apply ba_ | apply pN_ | apply bd_ | refine bs_ ?_ GE288.out) | exact HB.out))) : w.heap.size ≤ gb289)); have n4_ := As_.mk ((by rw [hg]; exact (bz_ (by repeat (first | (with_reducible first | exact HB.out | apply ba_ | apply pN_ | apply bd_ | refine bs_ ?_ GE288.out) | exact HB.out))) : w.heap.size ≤ gb289)); have n5_ := As_.mk ((by rw [hg]; exact Nat.ne_of_lt (blk_lt (g := gb288) (o := .cells #[.int .i64 a0_0, .slice A0_1 l0_1.length c0_1, .int .i64 a0_2] 56 (0, 0)) (by (with_reducible repeat (first | refine kN_ ?_ _ | refine kd_ ?_ | refine ka_ ?_ _)); exact BK288.out)) : gb288 ≠ gb289)); have n6_ := As_.mk ((by rw [hg]; exact Nat.ne_of_gt (blk_lt (g := gb288) (o := .cells #[.int .i64 a0_0, .slice A0_1 l0_1.length c0_1, .int .i64 a0_2] 56 (0, 0)) (by (with_reducible repeat (first | refine kN_ ?_ _ | refine kd_ ?_ | refine ka_ ?_ _)); exact BK288.out)) : gb289 ≠ gb288)); clear BK288; clear HB; have BK288 := n0_; have HB := n1_; have BK289 := n2_; have GW289 := n3_; have GE289 := n4_; have NB288_289 := n5_; have NB289_288 := n6_; clear n0_ n1_ n2_ n3_ n4_ n5_ n6_; clear hb hbox hg; have hnb30 := NB288_289.out; have hnc30 := NB289_288.out; have hcz31_0 : w29.cell? ⟨gb288, 0, none⟩ = some (.int .i64 a0_0) := (kc_ BK288.out 0).trans rfl; have hcz31_1 : w29.cell? ⟨gb288, 1, none⟩ = some (.slice A0_1 l0_1.length c0_1) := (kc_ BK288.out 1).trans rfl; have hcz31_2 : w29.cell? ⟨gb288, 2, none⟩ = some (.int .i64 a0_2) := (kc_ BK288.out 2).trans rfl; have hfz31_0 := kf_ BK288.out 0; have hfz31_1 := kf_ BK288.out 1; have hfz31_2 := kf_ BK288.out 2) | ((with_reducible refine gate_callee (f := 165) rfl ?_); refine goesL_ (some 14) rfl rfl Tryz.func165 (by kernel_rfl) rfl #[.agg #[.int .i64 a0_0, .slice A0_1 l0_1.length c0_1]] rfl (by (try simp only [List.map_toArray, List.map_cons, List.map_nil]); first | done | rfl | (simp only [List.length_drop, List.length_take]; rfl)) ?_; (with_reducible refine (spec_l02Abs.calls k a0_0 _ _ l0_1 t290 t291 _ ?side1 ?side2 A3.out).mono ?_); (case side1 => repeat (first | exact (Kd.C_below HR0_1.out HB.out) | (with_reducible refine Kd.C_alloc ?_ _) | (with_reducible refine Kd.C_drewN ?_ _) | (with_reducible refine Kd.C_drew ?_))); (case side2 => exact HC0_1.out); rintro e w32 ⟨v292, rfl, ho0, hb⟩; refine ⟨_, rfl, ?_⟩; have n0_ := As_.mk (Kd.R_lower ho0 (bz_ (by repeat (first | (with_reducible first | exact HB.out | apply ba_ | apply pN_ | apply bd_ | refine bs_ ?_ GE288.out | refine bs_ ?_ GE289.out) | exact HB.out)))); have n1_ := As_.mk (kb_ (g := gb288) (o := .cells #[.int .i64 a0_0, .slice A0_1 l0_1.length c0_1, .int .i64 a0_2] 56 (0, 0)) (by (with_reducible repeat (first | refine kN_ ?_ _ | refine kd_ ?_ | refine ka_ ?_ _)); exact BK288.out) hb); have n2_ := As_.mk (kb_ (g := gb289) (o := .cells #[.int .i64 0, .slice none 0 0] 54 (0, 0)) (by (with_reducible repeat (first | refine kN_ ?_ _ | refine kd_ ?_ | refine ka_ ?_ _)); exact BK289.out) hb); have n3_ := As_.mk (bp_ (by repeat (first | (with_reducible first | exact HB.out | apply ba_ | apply pN_ | apply bd_ | refine bs_ ?_ GE288.out | refine bs_ ?_ GE289.out) | exact HB.out)) hb); clear BK288; clear BK289; clear HB; have HO293 := n0_; have BK288 := n1_; have BK289 := n2_; have HB := n3_; clear n0_ n1_ n2_ n3_; (try clear hb); (try clear hb2); (try clear hk); (try clear hi); (try clear ho0)) | ((with_reducible refine gate_dst (N := 7) rfl ?_); refine box_event ?hg (N := 7) ?hd (cs := #[.int .i64 0, .slice none 0 0]) (t := 54) ?hr ?_; (case hd => rfl); (case hg => rfl); (case hr => first | (go_simp; done) | (go_simp; rfl)); intro gb294 hg w33 hbox hb; have n0_ := As_.mk (Kd.R_below (by (with_reducible repeat (first | apply Kd.R_alloc | apply Kd.R_drewN | apply Kd.R_drew)); exact HO293.out) hb); have n1_ := As_.mk (kb_ (g := gb288) (o := .cells #[.int .i64 a0_0, .slice A0_1 l0_1.length c0_1, .int .i64 a0_2] 56 (0, 0)) (by (with_reducible repeat (first | refine kN_ ?_ _ | refine kd_ ?_ | refine ka_ ?_ _)); exact BK288.out) hb); have n2_ := As_.mk (kb_ (g := gb289) (o := .cells #[.int .i64 0, .slice none 0 0] 54 (0, 0)) (by (with_reducible repeat (first | refine kN_ ?_ _ | refine kd_ ?_ | refine ka_ ?_ _)); exact BK289.out) hb); have n3_ := As_.mk (bp_ (by repeat (first | (with_reducible first | exact HB.out | apply ba_ | apply pN_ | apply bd_ | refine bs_ ?_ GE288.out | refine bs_ ?_ GE289.out) | exact HB.out)) hb); have n4_ := As_.mk (hbox); have n5_ := As_.mk ((by rw [hg]; exact (bz_ (by repeat (first | (with_reducible first | exact HB.out | apply ba_ | apply pN_ | apply bd_ | refine bs_ ?_ GE288.out | refine bs_ ?_ GE289.out) | exact HB.out))) : w.heap.size ≤ gb294)); have n6_ := As_.mk ((by rw [hg]; exact (bz_ (by repeat (first | (with_reducible first | exact HB.out | apply ba_ | apply pN_ | apply bd_ | refine bs_ ?_ GE288.out | refine bs_ ?_ GE289.out) | exact HB.out))) : w.heap.size ≤ gb294)); have n7_ := As_.mk ((by rw [hg]; exact Nat.ne_of_lt (blk_lt (g := gb288) (o := .cells #[.int .i64 a0_0, .slice A0_1 l0_1.length c0_1, .int .i64 a0_2] 56 (0, 0)) (by (with_reducible repeat (first | refine kN_ ?_ _ | refine kd_ ?_ | refine ka_ ?_ _)); exact BK288.out)) : gb288 ≠ gb294)); have n8_ := As_.mk ((by rw [hg]; exact Nat.ne_of_gt (blk_lt (g := gb288) (o := .cells #[.int .i64 a0_0, .slice A0_1 l0_1.length c0_1, .int .i64 a0_2] 56 (0, 0)) (by (with_reducible repeat (first | refine kN_ ?_ _ | refine kd_ ?_ | refine ka_ ?_ _)); exact BK288.out)) : gb294 ≠ gb288)); have n9_ := As_.mk ((by rw [hg]; exact Nat.ne_of_lt (blk_lt (g := gb289) (o := .cells #[.int .i64 0, .slice none 0 0] 54 (0, 0)) (by (with_reducible repeat (first | refine kN_ ?_ _ | refine kd_ ?_ | refine ka_ ?_ _)); exact BK289.out)) : gb289 ≠ gb294)); have n10_ := As_.mk ((by rw [hg]; exact Nat.ne_of_gt (blk_lt (g := gb289) (o := .cells #[.int .i64 0, .slice none 0 0] 54 (0, 0)) (by (with_reducible repeat (first | refine kN_ ?_ _ | refine kd_ ?_ | refine ka_ ?_ _)); exact BK289.out)) : gb294 ≠ gb289)); clear HO293; clear BK288; clear BK289; clear HB; have HO293 := n0_; have BK288 := n1_; have BK289 := n2_; have HB := n3_; have BK294 := n4_; have GW294 := n5_; have GE294 := n6_; have NB288_294 := n7_; have NB294_288 := n8_; have NB289_294 := n9_; have NB294_289 := n10_; clear n0_ n1_ n2_ n3_ n4_ n5_ n6_ n7_ n8_ n9_ n10_; clear hb hbox hg; have hnb34 := NB294_288.out; have hnc34 := NB288_294.out; have hnb35 := NB294_289.out; have hnc35 := NB289_294.out; have hcz36_0 : w33.cell? ⟨gb294, 0, none⟩ = some (.int .i64 0) := (kc_ BK294.out 0).trans rfl; have hcz36_1 : w33.cell? ⟨gb294, 1, none⟩ = some (.slice none 0 0) := (kc_ BK294.out 1).trans rfl; have hfz36_0 := kf_ BK294.out 0; have hfz36_1 := kf_ BK294.out 1; obtain ⟨Ao37, co37, eo37⟩ := Kd.R_slice HO293.out; subst eo37))
  have n0_ : As_ (Kd.R (Kd.int .i64) 2 ((w33.setCell ⟨gb294, 0, none⟩ (.int .i64 t290)).setCell ⟨gb294, 1, none⟩ (.slice Ao37 t291.length co37)) w.heap.size (fun _ => True) (.slice Ao37 t291.length co37) t291) := ⟨by (with_reducible repeat (first | apply Kd.R_alloc | apply Kd.R_drewN | apply Kd.R_drew)); exact Kd.R_mono (Kd.R_far (p := ⟨gb294, 1, none⟩) (Kd.R_far (p := ⟨gb294, 0, none⟩) (Kd.R_types HO293.out BK294.out (by decide)) (fun _ hk => hk.2) (.int .i64 t290)) (fun _ hk => hk.2) (.slice Ao37 t291.length co37)) (fun _ hk => trivial)⟩
  have n1_ : As_ (((w33.setCell ⟨gb294, 0, none⟩ (.int .i64 t290)).setCell ⟨gb294, 1, none⟩ (.slice Ao37 t291.length co37)).heap[gb288]? = some (.cells #[.int .i64 a0_0, .slice A0_1 l0_1.length c0_1, .int .i64 a0_2] 56 (0, 0))) := ⟨by (with_reducible repeat (first | refine kN_ ?_ _ | refine kd_ ?_ | refine ka_ ?_ _)); refine blk_far ?_ NB288_294.out _; (with_reducible repeat (first | refine kN_ ?_ _ | refine kd_ ?_ | refine ka_ ?_ _)); refine blk_far ?_ NB288_294.out _; (with_reducible repeat (first | refine kN_ ?_ _ | refine kd_ ?_ | refine ka_ ?_ _)); exact BK288.out⟩
  have n2_ : As_ (((w33.setCell ⟨gb294, 0, none⟩ (.int .i64 t290)).setCell ⟨gb294, 1, none⟩ (.slice Ao37 t291.length co37)).heap[gb289]? = some (.cells #[.int .i64 0, .slice none 0 0] 54 (0, 0))) := ⟨by (with_reducible repeat (first | refine kN_ ?_ _ | refine kd_ ?_ | refine ka_ ?_ _)); refine blk_far ?_ NB289_294.out _; (with_reducible repeat (first | refine kN_ ?_ _ | refine kd_ ?_ | refine ka_ ?_ _)); refine blk_far ?_ NB289_294.out _; (with_reducible repeat (first | refine kN_ ?_ _ | refine kd_ ?_ | refine ka_ ?_ _)); exact BK289.out⟩
  have n3_ : As_ (((w33.setCell ⟨gb294, 0, none⟩ (.int .i64 t290)).setCell ⟨gb294, 1, none⟩ (.slice Ao37 t291.length co37)).heap[gb294]? = some (.cells #[.int .i64 t290, .slice Ao37 t291.length co37] 54 (0, 0))) := ⟨by (with_reducible repeat (first | refine kN_ ?_ _ | refine kd_ ?_ | refine ka_ ?_ _)); refine blk_put (cs := #[.int .i64 t290, .slice none 0 0]) ?_ 1 _ rfl; (with_reducible repeat (first | refine kN_ ?_ _ | refine kd_ ?_ | refine ka_ ?_ _)); refine blk_put (cs := #[.int .i64 0, .slice none 0 0]) ?_ 0 _ rfl; (with_reducible repeat (first | refine kN_ ?_ _ | refine kd_ ?_ | refine ka_ ?_ _)); exact BK294.out⟩
  have n4_ : As_ (Below w.heap.size w ((w33.setCell ⟨gb294, 0, none⟩ (.int .i64 t290)).setCell ⟨gb294, 1, none⟩ (.slice Ao37 t291.length co37))) := ⟨by repeat (first | (with_reducible first | exact HB.out | apply ba_ | apply pN_ | apply bd_ | refine bs_ ?_ GE288.out | refine bs_ ?_ GE289.out | refine bs_ ?_ GE294.out) | exact HB.out)⟩
  (try clear HO293)
  (try clear BK288)
  (try clear BK289)
  (try clear BK294)
  (try clear HB)
  generalize ((w33.setCell ⟨gb294, 0, none⟩ (.int .i64 t290)).setCell ⟨gb294, 1, none⟩ (.slice Ao37 t291.length co37)) = w38 at n0_ n1_ n2_ n3_ n4_ ⊢
  have HO293 := n0_
  have BK288 := n1_
  have BK289 := n2_
  have BK294 := n3_
  have HB := n4_
  clear n0_ n1_ n2_ n3_ n4_
  have n0_ := As_.mk (Kd.R_drew HO293.out)
  have n1_ := As_.mk (kd_ BK288.out)
  have n2_ := As_.mk (kd_ BK289.out)
  have n3_ := As_.mk (kd_ BK294.out)
  have n4_ := As_.mk (bd_ HB.out)
  clear HO293
  clear BK288
  clear BK289
  clear BK294
  clear HB
  have HO293 := n0_
  have BK288 := n1_
  have BK289 := n2_
  have BK294 := n3_
  have HB := n4_
  clear n0_ n1_ n2_ n3_ n4_
  refine start_ (n := 8) (S := fun w' => w'.cell? ⟨gb294, 0, none⟩ = some (.int .i64 t290) ∧ w'.cell? ⟨gb294, 1, none⟩ = some (.slice Ao37 t291.length co37) ∧ w'.cell? ⟨gb288, 0, none⟩ = some (.int .i64 a0_0) ∧ w'.cell? ⟨gb288, 1, none⟩ = some (.slice A0_1 l0_1.length c0_1) ∧ w'.cell? ⟨gb288, 2, none⟩ = some (.int .i64 a0_2)) (ds := []) #[false, false, false, false, false, false, false, false] (by kernel_rfl) rfl rfl ⟨(kc_ BK294.out 0).trans rfl, (kc_ BK294.out 1).trans rfl, (kc_ BK288.out 0).trans rfl, (kc_ BK288.out 1).trans rfl, (kc_ BK288.out 2).trans rfl⟩ (fun hHeld => ?_); refine with_tabW spec_l03Multiple.tab2 spec_l03Multiple.bits2 (fun HT_ HW_ => ?_)
  generalize w38.drew = w39 at HO293 BK288 BK289 BK294 HB hHeld ⊢
  refine pure_ (i := 2) (N := some 17) (v := ?_) (a' := ?_) #[false, false, true, false, false, false, false, false] rfl rfl (any_of HT_.out (by kernel_rfl)) (fun _ _ _ h => h) (Or.inl ⟨by rfl, ?_⟩) ?_ ?_
  rotate_left
  ·intro w'
   go_simp
   with_reducible rfl
  rotate_left
  ·simp only [Act.put, List.setIfInBounds_toArray, List.set_cons_zero, List.set_cons_succ, i64_w, i32_w]
   rfl
  refine take_ (i := 0) (N := some 15) (v := ?_) (a' := ?_) #[true, false, true, false, false, false, false, false] rfl rfl (take_ofW HT_.out HW_.out (by kernel_rfl)) (fun _ _ _ h => h) (Or.inl ⟨by rfl, ?_⟩) hHeld ?_ ?_
  rotate_left
  ·rintro w' ⟨s0, s1, s2, s3, s4⟩
   go_simp
   with_reducible rfl
  rotate_left
  ·simp only [Act.put, List.setIfInBounds_toArray, List.set_cons_zero, List.set_cons_succ, i64_w, i32_w]
   rfl
  refine take_ (i := 3) (N := some 18) (v := ?_) (a' := ?_) #[true, false, true, true, false, false, false, false] rfl rfl (take_ofW HT_.out HW_.out (by kernel_rfl)) (fun _ _ _ h => h) (Or.inl ⟨by rfl, ?_⟩) hHeld ?_ ?_
  rotate_left
  ·rintro w' ⟨s0, s1, s2, s3, s4⟩
   go_simp
   with_reducible rfl
  rotate_left
  ·simp only [Act.put, List.setIfInBounds_toArray, List.set_cons_zero, List.set_cons_succ, i64_w, i32_w]
   rfl
  refine one_ (i := 1) (N := some 16) #[true, true, true, true, false, false, false, false] rfl rfl (one_of HT_.out (by kernel_rfl)) (by decide) (fun K hK => ?_)
  refine goes_ Tryz.func235 (by kernel_rfl) rfl #[.agg #[.int .i64 t290, .slice Ao37 t291.length co37]] (by rfl) rfl rfl (by (try simp only [List.map_toArray, List.map_cons, List.map_nil]); first | done | rfl | (simp only [List.length_drop, List.length_take]; rfl)) ?_
  with_reducible refine (spec_l02Length.calls k t290 _ _ t291 t295 _ ?side1 ?side2 A4.out).mono ?_
  (case side1 => repeat (first | exact (Kd.R_reads' HO293.out).2.2 | (with_reducible refine Kd.C_alloc ?_ _) | (with_reducible refine Kd.C_drewN ?_ _) | (with_reducible refine Kd.C_drew ?_)))
  (case side2 => exact (Kd.R_reads' HO293.out).2.1)
  rintro e w40 ⟨rfl, hb⟩
  refine ⟨_, rfl, ?_⟩
  have n0_ := As_.mk (Kd.R_below (by (with_reducible repeat (first | apply Kd.R_alloc | apply Kd.R_drewN | apply Kd.R_drew)); exact HO293.out) hb)
  have n1_ := As_.mk (kb_ (g := gb288) (o := .cells #[.int .i64 a0_0, .slice A0_1 l0_1.length c0_1, .int .i64 a0_2] 56 (0, 0)) (by (with_reducible repeat (first | refine kN_ ?_ _ | refine kd_ ?_ | refine ka_ ?_ _)); exact BK288.out) hb)
  have n2_ := As_.mk (kb_ (g := gb289) (o := .cells #[.int .i64 0, .slice none 0 0] 54 (0, 0)) (by (with_reducible repeat (first | refine kN_ ?_ _ | refine kd_ ?_ | refine ka_ ?_ _)); exact BK289.out) hb)
  have n3_ := As_.mk (kb_ (g := gb294) (o := .cells #[.int .i64 t290, .slice Ao37 t291.length co37] 54 (0, 0)) (by (with_reducible repeat (first | refine kN_ ?_ _ | refine kd_ ?_ | refine ka_ ?_ _)); exact BK294.out) hb)
  have n4_ := As_.mk (bp_ (by repeat (first | (with_reducible first | exact HB.out | apply ba_ | apply pN_ | apply bd_ | refine bs_ ?_ GE288.out | refine bs_ ?_ GE289.out | refine bs_ ?_ GE294.out) | exact HB.out)) hb)
  clear HO293
  clear BK288
  clear BK289
  clear BK294
  clear HB
  have HO293 := n0_
  have BK288 := n1_
  have BK289 := n2_
  have BK294 := n3_
  have HB := n4_
  clear n0_ n1_ n2_ n3_ n4_
  (try clear hb)
  (try clear hb2)
  (try clear hk)
  (try clear hi)
  refine hK.out _ _ ⟨(kc_ BK294.out 0).trans rfl, (kc_ BK294.out 1).trans rfl, (kc_ BK288.out 0).trans rfl, (kc_ BK288.out 1).trans rfl, (kc_ BK288.out 2).trans rfl⟩ (fun hHeld => ?_)
  clear hK K
  refine norm_ (a' := ?_) ?_ ?_
  rotate_left
  ·show Act.put _ (some 16) _ = _
   simp only [Act.put, List.setIfInBounds_toArray, List.set_cons_zero, List.set_cons_succ, i64_w, i32_w]
   rfl
  refine pure_ (i := 4) (N := some 19) (v := ?_) (a' := ?_) #[true, true, true, true, true, false, false, false] rfl rfl (any_of HT_.out (by kernel_rfl)) (fun _ _ _ h => h) (Or.inl ⟨by rfl, ?_⟩) ?_ ?_
  rotate_left
  ·intro w'
   go_simp
   with_reducible rfl
  rotate_left
  ·simp only [Act.put, List.setIfInBounds_toArray, List.set_cons_zero, List.set_cons_succ, i64_w, i32_w]
   rfl
  refine pure_ (i := 5) (N := some 20) (v := ?_) (a' := ?_) #[true, true, true, true, true, true, false, false] rfl rfl (any_of HT_.out (by kernel_rfl)) (fun _ _ _ h => h) (Or.inl ⟨by rfl, ?_⟩) ?_ ?_
  rotate_left
  ·intro w'
   go_simp
   with_reducible rfl
  rotate_left
  ·simp only [Act.put, List.setIfInBounds_toArray, List.set_cons_zero, List.set_cons_succ, i64_w, i32_w]
   rfl
  refine pure_ (i := 6) (N := some 21) (v := ?_) (a' := ?_) #[true, true, true, true, true, true, true, false] rfl rfl (any_of HT_.out (by kernel_rfl)) (fun _ _ _ h => h) (Or.inl ⟨by rfl, ?_⟩) ?_ ?_
  rotate_left
  ·intro w'
   go_simp
   with_reducible rfl
  rotate_left
  ·simp only [Act.put, List.setIfInBounds_toArray, List.set_cons_zero, List.set_cons_succ, i64_w, i32_w]
   rfl
  refine pure_ (i := 7) (N := some 8) (v := ?_) (a' := ?_) #[true, true, true, true, true, true, true, true] rfl rfl (any_of HT_.out (by kernel_rfl)) (fun _ _ _ h => h) (Or.inl ⟨by rfl, ?_⟩) ?_ ?_
  rotate_left
  ·intro w'
   go_simp
   with_reducible rfl
  rotate_left
  ·simp only [Act.put, List.setIfInBounds_toArray, List.set_cons_zero, List.set_cons_succ, i64_w, i32_w]
   rfl
  refine done_ (done_of HT_.out (by kernel_rfl)) ?_
  have hcz41_0 : w40.cell? ⟨gb288, 0, none⟩ = some (.int .i64 a0_0) := (kc_ BK288.out 0).trans rfl
  have hcz41_1 : w40.cell? ⟨gb288, 1, none⟩ = some (.slice A0_1 l0_1.length c0_1) := (kc_ BK288.out 1).trans rfl
  have hcz41_2 : w40.cell? ⟨gb288, 2, none⟩ = some (.int .i64 a0_2) := (kc_ BK288.out 2).trans rfl
  have hfz41_0 := kf_ BK288.out 0
  have hfz41_1 := kf_ BK288.out 1
  have hfz41_2 := kf_ BK288.out 2
  have hcz42_0 : w40.cell? ⟨gb294, 0, none⟩ = some (.int .i64 t290) := (kc_ BK294.out 0).trans rfl
  have hcz42_1 : w40.cell? ⟨gb294, 1, none⟩ = some (.slice Ao37 t291.length co37) := (kc_ BK294.out 1).trans rfl
  have hfz42_0 := kf_ BK294.out 0
  have hfz42_1 := kf_ BK294.out 1
  go_upto_block 0 with (first | ((with_reducible refine gate_callee (f := 170) rfl ?_); refine goesL_ (some 35) rfl rfl Tryz.func170 (by kernel_rfl) rfl #[.agg #[.int .i64 t290, .slice Ao37 t291.length co37], .int .i64 (wrap64 ((ji5) - a0_2))] rfl (by (try simp only [List.map_toArray, List.map_cons, List.map_nil]); first | done | (simp only [hji5]; rfl) | rfl | (simp only [List.length_drop, List.length_take]; rfl)) ?_; (with_reducible refine (spec_l02Cut.calls k t290 _ _ t291 (wrap64 ((ji5) - a0_2)) t300 t301 _ ?side1 ?side2 A26.out).mono ?_); (case side1 => repeat (first | exact (Kd.R_reads' HO293.out).2.2 | (with_reducible refine Kd.C_alloc ?_ _) | (with_reducible refine Kd.C_drewN ?_ _) | (with_reducible refine Kd.C_drew ?_))); (case side2 => exact (Kd.R_reads' HO293.out).2.1); rintro e w43 ⟨v302, rfl, ho0, hb⟩; refine ⟨_, rfl, ?_⟩; have n0_ := As_.mk (Kd.R_elder' (by (with_reducible repeat (first | apply Kd.R_alloc | apply Kd.R_drewN | apply Kd.R_drew)); exact HO293.out) (Kd.R_base ho0) hb); have n1_ := As_.mk (Kd.R_lower (Kd.R_new' ho0 (Kd.R_lt (by (with_reducible repeat (first | apply Kd.R_alloc | apply Kd.R_drewN | apply Kd.R_drew)); exact HO293.out))) (bz_ (by repeat (first | (with_reducible first | exact HB.out | apply ba_ | apply pN_ | apply bd_ | refine bs_ ?_ GE288.out | refine bs_ ?_ GE289.out | refine bs_ ?_ GE294.out) | exact HB.out)))); have n2_ := As_.mk (kb_ (g := gb288) (o := .cells #[.int .i64 a0_0, .slice A0_1 l0_1.length c0_1, .int .i64 a0_2] 56 (0, 0)) (by (with_reducible repeat (first | refine kN_ ?_ _ | refine kd_ ?_ | refine ka_ ?_ _)); exact BK288.out) hb); have n3_ := As_.mk (kb_ (g := gb289) (o := .cells #[.int .i64 0, .slice none 0 0] 54 (0, 0)) (by (with_reducible repeat (first | refine kN_ ?_ _ | refine kd_ ?_ | refine ka_ ?_ _)); exact BK289.out) hb); have n4_ := As_.mk (kb_ (g := gb294) (o := .cells #[.int .i64 t290, .slice Ao37 t291.length co37] 54 (0, 0)) (by (with_reducible repeat (first | refine kN_ ?_ _ | refine kd_ ?_ | refine ka_ ?_ _)); exact BK294.out) hb); have n5_ := As_.mk (bp_ (by repeat (first | (with_reducible first | exact HB.out | apply ba_ | apply pN_ | apply bd_ | refine bs_ ?_ GE288.out | refine bs_ ?_ GE289.out | refine bs_ ?_ GE294.out) | exact HB.out)) hb); clear HO293; clear BK288; clear BK289; clear BK294; clear HB; have HO293 := n0_; have HO303 := n1_; have BK288 := n2_; have BK289 := n3_; have BK294 := n4_; have HB := n5_; clear n0_ n1_ n2_ n3_ n4_ n5_; (try clear hb); (try clear hb2); (try clear hk); (try clear hi); (try clear ho0)) | ((with_reducible refine gate_dst (N := 10) rfl ?_); refine box_event ?hg (N := 10) ?hd (cs := #[.int .i64 0, .slice none 0 0]) (t := 54) ?hr ?_; (case hd => rfl); (case hg => rfl); (case hr => first | (go_simp; done) | (go_simp; rfl)); intro gb304 hg w44 hbox hb; have n0_ := As_.mk (Kd.R_below (by (with_reducible repeat (first | apply Kd.R_alloc | apply Kd.R_drewN | apply Kd.R_drew)); exact HO293.out) hb); have n1_ := As_.mk (Kd.R_below (by (with_reducible repeat (first | apply Kd.R_alloc | apply Kd.R_drewN | apply Kd.R_drew)); exact HO303.out) hb); have n2_ := As_.mk (kb_ (g := gb288) (o := .cells #[.int .i64 a0_0, .slice A0_1 l0_1.length c0_1, .int .i64 a0_2] 56 (0, 0)) (by (with_reducible repeat (first | refine kN_ ?_ _ | refine kd_ ?_ | refine ka_ ?_ _)); exact BK288.out) hb); have n3_ := As_.mk (kb_ (g := gb289) (o := .cells #[.int .i64 0, .slice none 0 0] 54 (0, 0)) (by (with_reducible repeat (first | refine kN_ ?_ _ | refine kd_ ?_ | refine ka_ ?_ _)); exact BK289.out) hb); have n4_ := As_.mk (kb_ (g := gb294) (o := .cells #[.int .i64 t290, .slice Ao37 t291.length co37] 54 (0, 0)) (by (with_reducible repeat (first | refine kN_ ?_ _ | refine kd_ ?_ | refine ka_ ?_ _)); exact BK294.out) hb); have n5_ := As_.mk (bp_ (by repeat (first | (with_reducible first | exact HB.out | apply ba_ | apply pN_ | apply bd_ | refine bs_ ?_ GE288.out | refine bs_ ?_ GE289.out | refine bs_ ?_ GE294.out) | exact HB.out)) hb); have n6_ := As_.mk (hbox); have n7_ := As_.mk ((by rw [hg]; exact (bz_ (by repeat (first | (with_reducible first | exact HB.out | apply ba_ | apply pN_ | apply bd_ | refine bs_ ?_ GE288.out | refine bs_ ?_ GE289.out | refine bs_ ?_ GE294.out) | exact HB.out))) : w.heap.size ≤ gb304)); have n8_ := As_.mk ((by rw [hg]; exact (bz_ (by repeat (first | (with_reducible first | exact HB.out | apply ba_ | apply pN_ | apply bd_ | refine bs_ ?_ GE288.out | refine bs_ ?_ GE289.out | refine bs_ ?_ GE294.out) | exact HB.out))) : w.heap.size ≤ gb304)); have n9_ := As_.mk ((by rw [hg]; exact Nat.ne_of_lt (blk_lt (g := gb288) (o := .cells #[.int .i64 a0_0, .slice A0_1 l0_1.length c0_1, .int .i64 a0_2] 56 (0, 0)) (by (with_reducible repeat (first | refine kN_ ?_ _ | refine kd_ ?_ | refine ka_ ?_ _)); exact BK288.out)) : gb288 ≠ gb304)); have n10_ := As_.mk ((by rw [hg]; exact Nat.ne_of_gt (blk_lt (g := gb288) (o := .cells #[.int .i64 a0_0, .slice A0_1 l0_1.length c0_1, .int .i64 a0_2] 56 (0, 0)) (by (with_reducible repeat (first | refine kN_ ?_ _ | refine kd_ ?_ | refine ka_ ?_ _)); exact BK288.out)) : gb304 ≠ gb288)); have n11_ := As_.mk ((by rw [hg]; exact Nat.ne_of_lt (blk_lt (g := gb289) (o := .cells #[.int .i64 0, .slice none 0 0] 54 (0, 0)) (by (with_reducible repeat (first | refine kN_ ?_ _ | refine kd_ ?_ | refine ka_ ?_ _)); exact BK289.out)) : gb289 ≠ gb304)); have n12_ := As_.mk ((by rw [hg]; exact Nat.ne_of_gt (blk_lt (g := gb289) (o := .cells #[.int .i64 0, .slice none 0 0] 54 (0, 0)) (by (with_reducible repeat (first | refine kN_ ?_ _ | refine kd_ ?_ | refine ka_ ?_ _)); exact BK289.out)) : gb304 ≠ gb289)); have n13_ := As_.mk ((by rw [hg]; exact Nat.ne_of_lt (blk_lt (g := gb294) (o := .cells #[.int .i64 t290, .slice Ao37 t291.length co37] 54 (0, 0)) (by (with_reducible repeat (first | refine kN_ ?_ _ | refine kd_ ?_ | refine ka_ ?_ _)); exact BK294.out)) : gb294 ≠ gb304)); have n14_ := As_.mk ((by rw [hg]; exact Nat.ne_of_gt (blk_lt (g := gb294) (o := .cells #[.int .i64 t290, .slice Ao37 t291.length co37] 54 (0, 0)) (by (with_reducible repeat (first | refine kN_ ?_ _ | refine kd_ ?_ | refine ka_ ?_ _)); exact BK294.out)) : gb304 ≠ gb294)); clear HO293; clear HO303; clear BK288; clear BK289; clear BK294; clear HB; have HO293 := n0_; have HO303 := n1_; have BK288 := n2_; have BK289 := n3_; have BK294 := n4_; have HB := n5_; have BK304 := n6_; have GW304 := n7_; have GE304 := n8_; have NB288_304 := n9_; have NB304_288 := n10_; have NB289_304 := n11_; have NB304_289 := n12_; have NB294_304 := n13_; have NB304_294 := n14_; clear n0_ n1_ n2_ n3_ n4_ n5_ n6_ n7_ n8_ n9_ n10_ n11_ n12_ n13_ n14_; clear hb hbox hg; have hnb45 := NB304_288.out; have hnc45 := NB288_304.out; have hnb46 := NB304_289.out; have hnc46 := NB289_304.out; have hnb47 := NB304_294.out; have hnc47 := NB294_304.out; have hcz48_0 : w44.cell? ⟨gb304, 0, none⟩ = some (.int .i64 0) := (kc_ BK304.out 0).trans rfl; have hcz48_1 : w44.cell? ⟨gb304, 1, none⟩ = some (.slice none 0 0) := (kc_ BK304.out 1).trans rfl; have hfz48_0 := kf_ BK304.out 0; have hfz48_1 := kf_ BK304.out 1; obtain ⟨Ao49, co49, eo49⟩ := Kd.R_slice HO303.out; subst eo49))
  (try simp only [Act.put, List.setIfInBounds_toArray, List.set_cons_zero, List.set_cons_succ])
  go_cut [11] (fun v11 wc => ∃ (kq : Nat) (x11_26 : Bool), v11 = .bool x11_26 ∧ As_ (spec_l03Multiple.j0 kq ji5 x11_26 t300 t301 = some (r1, r2, r3, r4)) ∧ As_ (kq ≤ k) ∧ As_ (Kd.R (Kd.int .i64) 2 wc w.heap.size (fun k_ => some k_ ≠ ((.slice Ao49 t301.length co49) : Value).ownBlock) (.slice Ao37 t291.length co37) t291) ∧ As_ (Kd.R (Kd.int .i64) 2 wc w.heap.size (fun k_ => some k_ ≠ ((.slice Ao37 t291.length co37) : Value).ownBlock) (.slice Ao49 t301.length co49) t301) ∧ As_ (wc.heap[gb288]? = some (.cells #[.int .i64 a0_0, (.slice A0_1 l0_1.length c0_1), .int .i64 a0_2] 56 (0, 0))) ∧ As_ (wc.heap[gb289]? = some (.cells #[.int .i64 0, (.slice none 0 0)] 54 (0, 0))) ∧ As_ (wc.heap[gb294]? = some (.cells #[.int .i64 t290, (.slice Ao37 t291.length co37)] 54 (0, 0))) ∧ As_ (wc.heap[gb304]? = some (.cells #[.int .i64 t300, (.slice Ao49 t301.length co49)] 54 (0, 0))) ∧ As_ (Below w.heap.size w wc))
  case first =>
   have H := HC27.out
   clear HC27
   by_cases c50 : a1 = 0
   ·rw [if_pos c50] at H
    have c50b0 : (a1 == 0) = true := beq_iff_eq.mpr c50
    have c50b1 : (a1 != 0) = false := bne_eq_false_iff_eq.mpr c50
    clear c50
    (first | rw [c50b0] | (simp only [i64_w, i32_w]; rw [c50b0]) | skip)
    replace H := Option.bind_eq_some_iff.mp H
    obtain ⟨t305, A510, H⟩ := H
    replace H : (if t305 = 1 then (if (wrap64 ((ji5) - a0_2)) > 1 then (spec_l03Multiple.j0 k ji5 true t300 t301) else ((spec_l02Bit.f t300 t301 0).bind fun t306 => (spec_l03Multiple.j0 k ji5 (t306 == 1) t300 t301))) else (spec_l03Multiple.j0 k ji5 false t300 t301)) = some (r1, r2, r3, r4) := H
    have A51 := As_.mk A510
    clear A510
    by_cases c52 : t305 = 1
    ·rw [if_pos c52] at H
     have c52b0 : (t305 == 1) = true := beq_iff_eq.mpr c52
     have c52b1 : (t305 != 1) = false := bne_eq_false_iff_eq.mpr c52
     clear c52
     by_cases c53 : (wrap64 ((ji5) - a0_2)) > 1
     ·rw [if_pos c53] at H
      have c53b0 : decide (1 < (wrap64 ((ji5) - a0_2))) = true := decide_eq_true c53
      clear c53
      have H' := As_.mk H
      clear H
      have hnb54 := NB294_288.out
      have hnc54 := NB288_294.out
      have hnb55 := NB294_289.out
      have hnc55 := NB289_294.out
      have hnb56 := NB294_304.out
      have hnc56 := NB304_294.out
      have hcz57_0 : w44.cell? ⟨gb294, 0, none⟩ = some (.int .i64 t290) := (kc_ BK294.out 0).trans rfl
      have hcz57_1 : w44.cell? ⟨gb294, 1, none⟩ = some (.slice Ao37 t291.length co37) := (kc_ BK294.out 1).trans rfl
      have hfz57_0 := kf_ BK294.out 0
      have hfz57_1 := kf_ BK294.out 1
      go_wp2_with (first | ((with_reducible refine gate_callee (f := 217) rfl ?_); refine goesL_ (some 42) rfl rfl Tryz.func217 (by kernel_rfl) rfl #[.agg #[.int .i64 t290, .slice Ao37 t291.length co37], .int .i64 (wrap64 ((wrap64 ((ji5) - a0_2)) - 1))] rfl (by (try simp only [List.map_toArray, List.map_cons, List.map_nil]); first | done | (simp only [hji5]; rfl) | rfl | (simp only [List.length_drop, List.length_take]; rfl)) ?_; (with_reducible refine (spec_l02Bit.calls t290 _ _ t291 (wrap64 ((wrap64 ((ji5) - a0_2)) - 1)) t305 _ ?side1 ?side2 A51.out).mono ?_); (case side1 => refine (Kd.R_reads' (e := 2) (base := w.heap.size) (ok := fun k_ => (True ∧ some k_ ≠ (.slice Ao49 t301.length co49 : Value).ownBlock)) (n := t291.length) (c := co37) ?_).2.2; exact (by (with_reducible repeat (first | apply Kd.R_alloc | apply Kd.R_drewN | apply Kd.R_drew)); exact (Kd.R_mono (Kd.R_far (p := ⟨gb304, 1, none⟩) (Kd.R_far (p := ⟨gb304, 0, none⟩) (Kd.R_types HO293.out BK304.out (by decide)) (fun _ hk => hk.2) (.int .i64 t300)) (fun _ hk => hk.2) (.slice Ao49 t301.length co49)) (fun _ h_ => h_.1)))); (case side2 => exact (Kd.R_reads' HO293.out).2.1); rintro e w58 ⟨rfl, hb⟩; refine ⟨_, rfl, ?_⟩; have n0_ := As_.mk (Kd.R_below (by (with_reducible repeat (first | apply Kd.R_alloc | apply Kd.R_drewN | apply Kd.R_drew)); exact (Kd.R_mono (Kd.R_far (p := ⟨gb304, 1, none⟩) (Kd.R_far (p := ⟨gb304, 0, none⟩) (Kd.R_types HO293.out BK304.out (by decide)) (fun _ hk => hk.2) (.int .i64 t300)) (fun _ hk => hk.2) (.slice Ao49 t301.length co49)) (fun _ h_ => h_.1))) hb); have n1_ := As_.mk (Kd.R_below (by (with_reducible repeat (first | apply Kd.R_alloc | apply Kd.R_drewN | apply Kd.R_drew)); exact (Kd.R_mono (Kd.R_far (p := ⟨gb304, 1, none⟩) (Kd.R_far (p := ⟨gb304, 0, none⟩) (Kd.R_types HO303.out BK304.out (by decide)) (fun _ hk => hk.2) (.int .i64 t300)) (fun _ hk => hk.2) (.slice Ao49 t301.length co49)) (fun _ h_ => h_.1))) hb); have n2_ := As_.mk (kb_ (g := gb288) (o := .cells #[.int .i64 a0_0, .slice A0_1 l0_1.length c0_1, .int .i64 a0_2] 56 (0, 0)) (by (with_reducible repeat (first | refine kN_ ?_ _ | refine kd_ ?_ | refine ka_ ?_ _)); refine blk_far ?_ NB288_304.out _; (with_reducible repeat (first | refine kN_ ?_ _ | refine kd_ ?_ | refine ka_ ?_ _)); refine blk_far ?_ NB288_304.out _; (with_reducible repeat (first | refine kN_ ?_ _ | refine kd_ ?_ | refine ka_ ?_ _)); exact BK288.out) hb); have n3_ := As_.mk (kb_ (g := gb289) (o := .cells #[.int .i64 0, .slice none 0 0] 54 (0, 0)) (by (with_reducible repeat (first | refine kN_ ?_ _ | refine kd_ ?_ | refine ka_ ?_ _)); refine blk_far ?_ NB289_304.out _; (with_reducible repeat (first | refine kN_ ?_ _ | refine kd_ ?_ | refine ka_ ?_ _)); refine blk_far ?_ NB289_304.out _; (with_reducible repeat (first | refine kN_ ?_ _ | refine kd_ ?_ | refine ka_ ?_ _)); exact BK289.out) hb); have n4_ := As_.mk (kb_ (g := gb294) (o := .cells #[.int .i64 t290, .slice Ao37 t291.length co37] 54 (0, 0)) (by (with_reducible repeat (first | refine kN_ ?_ _ | refine kd_ ?_ | refine ka_ ?_ _)); refine blk_far ?_ NB294_304.out _; (with_reducible repeat (first | refine kN_ ?_ _ | refine kd_ ?_ | refine ka_ ?_ _)); refine blk_far ?_ NB294_304.out _; (with_reducible repeat (first | refine kN_ ?_ _ | refine kd_ ?_ | refine ka_ ?_ _)); exact BK294.out) hb); have n5_ := As_.mk (kb_ (g := gb304) (o := .cells #[.int .i64 t300, .slice Ao49 t301.length co49] 54 (0, 0)) (by (with_reducible repeat (first | refine kN_ ?_ _ | refine kd_ ?_ | refine ka_ ?_ _)); refine blk_put (cs := #[.int .i64 t300, .slice none 0 0]) ?_ 1 _ rfl; (with_reducible repeat (first | refine kN_ ?_ _ | refine kd_ ?_ | refine ka_ ?_ _)); refine blk_put (cs := #[.int .i64 0, .slice none 0 0]) ?_ 0 _ rfl; (with_reducible repeat (first | refine kN_ ?_ _ | refine kd_ ?_ | refine ka_ ?_ _)); exact BK304.out) hb); have n6_ := As_.mk (bp_ (by repeat (first | (with_reducible first | exact HB.out | apply ba_ | apply pN_ | apply bd_ | refine bs_ ?_ GE288.out | refine bs_ ?_ GE289.out | refine bs_ ?_ GE294.out | refine bs_ ?_ GE304.out) | exact HB.out)) hb); clear HO293; clear HO303; clear BK288; clear BK289; clear BK294; clear BK304; clear HB; have HO293 := n0_; have HO303 := n1_; have BK288 := n2_; have BK289 := n3_; have BK294 := n4_; have BK304 := n5_; have HB := n6_; clear n0_ n1_ n2_ n3_ n4_ n5_ n6_; (try clear hb); (try clear hb2); (try clear hk); (try clear hi)))
      go_meet
      case rel => exact ⟨_, (true), (by first | rfl | (simp; done) | (simp [*]; done)), H', ⟨by first | omega | exact Nat.le_refl _⟩, ⟨by (with_reducible repeat (first | apply Kd.R_alloc | apply Kd.R_drewN | apply Kd.R_drew)); exact Kd.R_mono HO293.out (fun _ hk => hk.2)⟩, ⟨by (with_reducible repeat (first | apply Kd.R_alloc | apply Kd.R_drewN | apply Kd.R_drew)); exact Kd.R_mono HO303.out (fun _ hk => hk.2)⟩, ⟨by (with_reducible repeat (first | refine kN_ ?_ _ | refine kd_ ?_ | refine ka_ ?_ _)); exact BK288.out⟩, ⟨by (with_reducible repeat (first | refine kN_ ?_ _ | refine kd_ ?_ | refine ka_ ?_ _)); exact BK289.out⟩, ⟨by (with_reducible repeat (first | refine kN_ ?_ _ | refine kd_ ?_ | refine ka_ ?_ _)); exact BK294.out⟩, ⟨by (with_reducible repeat (first | refine kN_ ?_ _ | refine kd_ ?_ | refine ka_ ?_ _)); exact BK304.out⟩, ⟨by repeat (first | (with_reducible first | exact HB.out | apply ba_ | apply pN_ | apply bd_ | refine bs_ ?_ GE288.out | refine bs_ ?_ GE289.out | refine bs_ ?_ GE294.out | refine bs_ ?_ GE304.out) | exact HB.out)⟩⟩
     ·rw [if_neg c53] at H
      have c53b0 : decide (1 < (wrap64 ((ji5) - a0_2))) = false := decide_eq_false c53
      clear c53
      replace H := Option.bind_eq_some_iff.mp H
      obtain ⟨t306, A590, H⟩ := H
      replace H : (spec_l03Multiple.j0 k ji5 (t306 == 1) t300 t301) = some (r1, r2, r3, r4) := H
      have A59 := As_.mk A590
      clear A590
      have H' := As_.mk H
      clear H
      have hnb60 := NB294_288.out
      have hnc60 := NB288_294.out
      have hnb61 := NB294_289.out
      have hnc61 := NB289_294.out
      have hnb62 := NB294_304.out
      have hnc62 := NB304_294.out
      have hcz63_0 : w44.cell? ⟨gb294, 0, none⟩ = some (.int .i64 t290) := (kc_ BK294.out 0).trans rfl
      have hcz63_1 : w44.cell? ⟨gb294, 1, none⟩ = some (.slice Ao37 t291.length co37) := (kc_ BK294.out 1).trans rfl
      have hfz63_0 := kf_ BK294.out 0
      have hfz63_1 := kf_ BK294.out 1
      go_wp2_with (first | ((with_reducible refine gate_callee (f := 217) rfl ?_); refine goesL_ (some 42) rfl rfl Tryz.func217 (by kernel_rfl) rfl #[.agg #[.int .i64 t290, .slice Ao37 t291.length co37], .int .i64 (wrap64 ((wrap64 ((ji5) - a0_2)) - 1))] rfl (by (try simp only [List.map_toArray, List.map_cons, List.map_nil]); first | done | (simp only [hji5]; rfl) | rfl | (simp only [List.length_drop, List.length_take]; rfl)) ?_; (with_reducible refine (spec_l02Bit.calls t290 _ _ t291 (wrap64 ((wrap64 ((ji5) - a0_2)) - 1)) t305 _ ?side1 ?side2 A51.out).mono ?_); (case side1 => refine (Kd.R_reads' (e := 2) (base := w.heap.size) (ok := fun k_ => (True ∧ some k_ ≠ (.slice Ao49 t301.length co49 : Value).ownBlock)) (n := t291.length) (c := co37) ?_).2.2; exact (by (with_reducible repeat (first | apply Kd.R_alloc | apply Kd.R_drewN | apply Kd.R_drew)); exact (Kd.R_mono (Kd.R_far (p := ⟨gb304, 1, none⟩) (Kd.R_far (p := ⟨gb304, 0, none⟩) (Kd.R_types HO293.out BK304.out (by decide)) (fun _ hk => hk.2) (.int .i64 t300)) (fun _ hk => hk.2) (.slice Ao49 t301.length co49)) (fun _ h_ => h_.1)))); (case side2 => exact (Kd.R_reads' HO293.out).2.1); rintro e w64 ⟨rfl, hb⟩; refine ⟨_, rfl, ?_⟩; have n0_ := As_.mk (Kd.R_below (by (with_reducible repeat (first | apply Kd.R_alloc | apply Kd.R_drewN | apply Kd.R_drew)); exact (Kd.R_mono (Kd.R_far (p := ⟨gb304, 1, none⟩) (Kd.R_far (p := ⟨gb304, 0, none⟩) (Kd.R_types HO293.out BK304.out (by decide)) (fun _ hk => hk.2) (.int .i64 t300)) (fun _ hk => hk.2) (.slice Ao49 t301.length co49)) (fun _ h_ => h_.1))) hb); have n1_ := As_.mk (Kd.R_below (by (with_reducible repeat (first | apply Kd.R_alloc | apply Kd.R_drewN | apply Kd.R_drew)); exact (Kd.R_mono (Kd.R_far (p := ⟨gb304, 1, none⟩) (Kd.R_far (p := ⟨gb304, 0, none⟩) (Kd.R_types HO303.out BK304.out (by decide)) (fun _ hk => hk.2) (.int .i64 t300)) (fun _ hk => hk.2) (.slice Ao49 t301.length co49)) (fun _ h_ => h_.1))) hb); have n2_ := As_.mk (kb_ (g := gb288) (o := .cells #[.int .i64 a0_0, .slice A0_1 l0_1.length c0_1, .int .i64 a0_2] 56 (0, 0)) (by (with_reducible repeat (first | refine kN_ ?_ _ | refine kd_ ?_ | refine ka_ ?_ _)); refine blk_far ?_ NB288_304.out _; (with_reducible repeat (first | refine kN_ ?_ _ | refine kd_ ?_ | refine ka_ ?_ _)); refine blk_far ?_ NB288_304.out _; (with_reducible repeat (first | refine kN_ ?_ _ | refine kd_ ?_ | refine ka_ ?_ _)); exact BK288.out) hb); have n3_ := As_.mk (kb_ (g := gb289) (o := .cells #[.int .i64 0, .slice none 0 0] 54 (0, 0)) (by (with_reducible repeat (first | refine kN_ ?_ _ | refine kd_ ?_ | refine ka_ ?_ _)); refine blk_far ?_ NB289_304.out _; (with_reducible repeat (first | refine kN_ ?_ _ | refine kd_ ?_ | refine ka_ ?_ _)); refine blk_far ?_ NB289_304.out _; (with_reducible repeat (first | refine kN_ ?_ _ | refine kd_ ?_ | refine ka_ ?_ _)); exact BK289.out) hb); have n4_ := As_.mk (kb_ (g := gb294) (o := .cells #[.int .i64 t290, .slice Ao37 t291.length co37] 54 (0, 0)) (by (with_reducible repeat (first | refine kN_ ?_ _ | refine kd_ ?_ | refine ka_ ?_ _)); refine blk_far ?_ NB294_304.out _; (with_reducible repeat (first | refine kN_ ?_ _ | refine kd_ ?_ | refine ka_ ?_ _)); refine blk_far ?_ NB294_304.out _; (with_reducible repeat (first | refine kN_ ?_ _ | refine kd_ ?_ | refine ka_ ?_ _)); exact BK294.out) hb); have n5_ := As_.mk (kb_ (g := gb304) (o := .cells #[.int .i64 t300, .slice Ao49 t301.length co49] 54 (0, 0)) (by (with_reducible repeat (first | refine kN_ ?_ _ | refine kd_ ?_ | refine ka_ ?_ _)); refine blk_put (cs := #[.int .i64 t300, .slice none 0 0]) ?_ 1 _ rfl; (with_reducible repeat (first | refine kN_ ?_ _ | refine kd_ ?_ | refine ka_ ?_ _)); refine blk_put (cs := #[.int .i64 0, .slice none 0 0]) ?_ 0 _ rfl; (with_reducible repeat (first | refine kN_ ?_ _ | refine kd_ ?_ | refine ka_ ?_ _)); exact BK304.out) hb); have n6_ := As_.mk (bp_ (by repeat (first | (with_reducible first | exact HB.out | apply ba_ | apply pN_ | apply bd_ | refine bs_ ?_ GE288.out | refine bs_ ?_ GE289.out | refine bs_ ?_ GE294.out | refine bs_ ?_ GE304.out) | exact HB.out)) hb); clear HO293; clear HO303; clear BK288; clear BK289; clear BK294; clear BK304; clear HB; have HO293 := n0_; have HO303 := n1_; have BK288 := n2_; have BK289 := n3_; have BK294 := n4_; have BK304 := n5_; have HB := n6_; clear n0_ n1_ n2_ n3_ n4_ n5_ n6_; (try clear hb); (try clear hb2); (try clear hk); (try clear hi); have hnb65 := NB304_288.out; have hnc65 := NB288_304.out; have hnb66 := NB304_289.out; have hnc66 := NB289_304.out; have hcz67_0 : w64.cell? ⟨gb304, 0, none⟩ = some (.int .i64 t300) := (kc_ BK304.out 0).trans rfl; have hcz67_1 : w64.cell? ⟨gb304, 1, none⟩ = some (.slice Ao49 t301.length co49) := (kc_ BK304.out 1).trans rfl; have hfz67_0 := kf_ BK304.out 0; have hfz67_1 := kf_ BK304.out 1) | (go_at_call 217; (with_reducible refine (spec_l02Bit.calls t300 _ _ t301 0 t306 _ ?side1 ?side2 A59.out).mono ?_); (case side1 => repeat (first | exact (Kd.R_reads' HO303.out).2.2 | (with_reducible refine Kd.C_alloc ?_ _) | (with_reducible refine Kd.C_drewN ?_ _) | (with_reducible refine Kd.C_drew ?_))); (case side2 => exact (Kd.R_reads' HO303.out).2.1); rintro e w68 ⟨rfl, hb⟩; have n0_ := As_.mk (Kd.R_below (by (with_reducible repeat (first | apply Kd.R_alloc | apply Kd.R_drewN | apply Kd.R_drew)); exact HO293.out) hb); have n1_ := As_.mk (Kd.R_below (by (with_reducible repeat (first | apply Kd.R_alloc | apply Kd.R_drewN | apply Kd.R_drew)); exact HO303.out) hb); have n2_ := As_.mk (kb_ (g := gb288) (o := .cells #[.int .i64 a0_0, .slice A0_1 l0_1.length c0_1, .int .i64 a0_2] 56 (0, 0)) (by (with_reducible repeat (first | refine kN_ ?_ _ | refine kd_ ?_ | refine ka_ ?_ _)); exact BK288.out) hb); have n3_ := As_.mk (kb_ (g := gb289) (o := .cells #[.int .i64 0, .slice none 0 0] 54 (0, 0)) (by (with_reducible repeat (first | refine kN_ ?_ _ | refine kd_ ?_ | refine ka_ ?_ _)); exact BK289.out) hb); have n4_ := As_.mk (kb_ (g := gb294) (o := .cells #[.int .i64 t290, .slice Ao37 t291.length co37] 54 (0, 0)) (by (with_reducible repeat (first | refine kN_ ?_ _ | refine kd_ ?_ | refine ka_ ?_ _)); exact BK294.out) hb); have n5_ := As_.mk (kb_ (g := gb304) (o := .cells #[.int .i64 t300, .slice Ao49 t301.length co49] 54 (0, 0)) (by (with_reducible repeat (first | refine kN_ ?_ _ | refine kd_ ?_ | refine ka_ ?_ _)); exact BK304.out) hb); have n6_ := As_.mk (bp_ (by repeat (first | (with_reducible first | exact HB.out | apply ba_ | apply pN_ | apply bd_ | refine bs_ ?_ GE288.out | refine bs_ ?_ GE289.out | refine bs_ ?_ GE294.out | refine bs_ ?_ GE304.out) | exact HB.out)) hb); clear HO293; clear HO303; clear BK288; clear BK289; clear BK294; clear BK304; clear HB; have HO293 := n0_; have HO303 := n1_; have BK288 := n2_; have BK289 := n3_; have BK294 := n4_; have BK304 := n5_; have HB := n6_; clear n0_ n1_ n2_ n3_ n4_ n5_ n6_; (try clear hb); (try clear hb2); (try clear hk); (try clear hi)))
      go_meet
      case rel => exact ⟨_, ((t306 == 1)), (by first | rfl | (simp; done) | (simp [*]; done)), H', ⟨by first | omega | exact Nat.le_refl _⟩, ⟨by (with_reducible repeat (first | apply Kd.R_alloc | apply Kd.R_drewN | apply Kd.R_drew)); exact Kd.R_mono HO293.out (fun _ hk => hk.2)⟩, ⟨by (with_reducible repeat (first | apply Kd.R_alloc | apply Kd.R_drewN | apply Kd.R_drew)); exact Kd.R_mono HO303.out (fun _ hk => hk.2)⟩, ⟨by (with_reducible repeat (first | refine kN_ ?_ _ | refine kd_ ?_ | refine ka_ ?_ _)); exact BK288.out⟩, ⟨by (with_reducible repeat (first | refine kN_ ?_ _ | refine kd_ ?_ | refine ka_ ?_ _)); exact BK289.out⟩, ⟨by (with_reducible repeat (first | refine kN_ ?_ _ | refine kd_ ?_ | refine ka_ ?_ _)); exact BK294.out⟩, ⟨by (with_reducible repeat (first | refine kN_ ?_ _ | refine kd_ ?_ | refine ka_ ?_ _)); exact BK304.out⟩, ⟨by repeat (first | (with_reducible first | exact HB.out | apply ba_ | apply pN_ | apply bd_ | refine bs_ ?_ GE288.out | refine bs_ ?_ GE289.out | refine bs_ ?_ GE294.out | refine bs_ ?_ GE304.out) | exact HB.out)⟩⟩
    ·rw [if_neg c52] at H
     have c52b0 : (t305 == 1) = false := beq_eq_false_iff_ne.mpr c52
     have c52b1 : (t305 != 1) = true := bne_iff_ne.mpr c52
     have H' := As_.mk H
     clear H
     have hnb69 := NB294_288.out
     have hnc69 := NB288_294.out
     have hnb70 := NB294_289.out
     have hnc70 := NB289_294.out
     have hnb71 := NB294_304.out
     have hnc71 := NB304_294.out
     have hcz72_0 : w44.cell? ⟨gb294, 0, none⟩ = some (.int .i64 t290) := (kc_ BK294.out 0).trans rfl
     have hcz72_1 : w44.cell? ⟨gb294, 1, none⟩ = some (.slice Ao37 t291.length co37) := (kc_ BK294.out 1).trans rfl
     have hfz72_0 := kf_ BK294.out 0
     have hfz72_1 := kf_ BK294.out 1
     go_wp2_with (first | ((with_reducible refine gate_callee (f := 217) rfl ?_); refine goesL_ (some 42) rfl rfl Tryz.func217 (by kernel_rfl) rfl #[.agg #[.int .i64 t290, .slice Ao37 t291.length co37], .int .i64 (wrap64 ((wrap64 ((ji5) - a0_2)) - 1))] rfl (by (try simp only [List.map_toArray, List.map_cons, List.map_nil]); first | done | (simp only [hji5]; rfl) | rfl | (simp only [List.length_drop, List.length_take]; rfl)) ?_; (with_reducible refine (spec_l02Bit.calls t290 _ _ t291 (wrap64 ((wrap64 ((ji5) - a0_2)) - 1)) t305 _ ?side1 ?side2 A51.out).mono ?_); (case side1 => refine (Kd.R_reads' (e := 2) (base := w.heap.size) (ok := fun k_ => (True ∧ some k_ ≠ (.slice Ao49 t301.length co49 : Value).ownBlock)) (n := t291.length) (c := co37) ?_).2.2; exact (by (with_reducible repeat (first | apply Kd.R_alloc | apply Kd.R_drewN | apply Kd.R_drew)); exact (Kd.R_mono (Kd.R_far (p := ⟨gb304, 1, none⟩) (Kd.R_far (p := ⟨gb304, 0, none⟩) (Kd.R_types HO293.out BK304.out (by decide)) (fun _ hk => hk.2) (.int .i64 t300)) (fun _ hk => hk.2) (.slice Ao49 t301.length co49)) (fun _ h_ => h_.1)))); (case side2 => exact (Kd.R_reads' HO293.out).2.1); rintro e w73 ⟨rfl, hb⟩; refine ⟨_, rfl, ?_⟩; have n0_ := As_.mk (Kd.R_below (by (with_reducible repeat (first | apply Kd.R_alloc | apply Kd.R_drewN | apply Kd.R_drew)); exact (Kd.R_mono (Kd.R_far (p := ⟨gb304, 1, none⟩) (Kd.R_far (p := ⟨gb304, 0, none⟩) (Kd.R_types HO293.out BK304.out (by decide)) (fun _ hk => hk.2) (.int .i64 t300)) (fun _ hk => hk.2) (.slice Ao49 t301.length co49)) (fun _ h_ => h_.1))) hb); have n1_ := As_.mk (Kd.R_below (by (with_reducible repeat (first | apply Kd.R_alloc | apply Kd.R_drewN | apply Kd.R_drew)); exact (Kd.R_mono (Kd.R_far (p := ⟨gb304, 1, none⟩) (Kd.R_far (p := ⟨gb304, 0, none⟩) (Kd.R_types HO303.out BK304.out (by decide)) (fun _ hk => hk.2) (.int .i64 t300)) (fun _ hk => hk.2) (.slice Ao49 t301.length co49)) (fun _ h_ => h_.1))) hb); have n2_ := As_.mk (kb_ (g := gb288) (o := .cells #[.int .i64 a0_0, .slice A0_1 l0_1.length c0_1, .int .i64 a0_2] 56 (0, 0)) (by (with_reducible repeat (first | refine kN_ ?_ _ | refine kd_ ?_ | refine ka_ ?_ _)); refine blk_far ?_ NB288_304.out _; (with_reducible repeat (first | refine kN_ ?_ _ | refine kd_ ?_ | refine ka_ ?_ _)); refine blk_far ?_ NB288_304.out _; (with_reducible repeat (first | refine kN_ ?_ _ | refine kd_ ?_ | refine ka_ ?_ _)); exact BK288.out) hb); have n3_ := As_.mk (kb_ (g := gb289) (o := .cells #[.int .i64 0, .slice none 0 0] 54 (0, 0)) (by (with_reducible repeat (first | refine kN_ ?_ _ | refine kd_ ?_ | refine ka_ ?_ _)); refine blk_far ?_ NB289_304.out _; (with_reducible repeat (first | refine kN_ ?_ _ | refine kd_ ?_ | refine ka_ ?_ _)); refine blk_far ?_ NB289_304.out _; (with_reducible repeat (first | refine kN_ ?_ _ | refine kd_ ?_ | refine ka_ ?_ _)); exact BK289.out) hb); have n4_ := As_.mk (kb_ (g := gb294) (o := .cells #[.int .i64 t290, .slice Ao37 t291.length co37] 54 (0, 0)) (by (with_reducible repeat (first | refine kN_ ?_ _ | refine kd_ ?_ | refine ka_ ?_ _)); refine blk_far ?_ NB294_304.out _; (with_reducible repeat (first | refine kN_ ?_ _ | refine kd_ ?_ | refine ka_ ?_ _)); refine blk_far ?_ NB294_304.out _; (with_reducible repeat (first | refine kN_ ?_ _ | refine kd_ ?_ | refine ka_ ?_ _)); exact BK294.out) hb); have n5_ := As_.mk (kb_ (g := gb304) (o := .cells #[.int .i64 t300, .slice Ao49 t301.length co49] 54 (0, 0)) (by (with_reducible repeat (first | refine kN_ ?_ _ | refine kd_ ?_ | refine ka_ ?_ _)); refine blk_put (cs := #[.int .i64 t300, .slice none 0 0]) ?_ 1 _ rfl; (with_reducible repeat (first | refine kN_ ?_ _ | refine kd_ ?_ | refine ka_ ?_ _)); refine blk_put (cs := #[.int .i64 0, .slice none 0 0]) ?_ 0 _ rfl; (with_reducible repeat (first | refine kN_ ?_ _ | refine kd_ ?_ | refine ka_ ?_ _)); exact BK304.out) hb); have n6_ := As_.mk (bp_ (by repeat (first | (with_reducible first | exact HB.out | apply ba_ | apply pN_ | apply bd_ | refine bs_ ?_ GE288.out | refine bs_ ?_ GE289.out | refine bs_ ?_ GE294.out | refine bs_ ?_ GE304.out) | exact HB.out)) hb); clear HO293; clear HO303; clear BK288; clear BK289; clear BK294; clear BK304; clear HB; have HO293 := n0_; have HO303 := n1_; have BK288 := n2_; have BK289 := n3_; have BK294 := n4_; have BK304 := n5_; have HB := n6_; clear n0_ n1_ n2_ n3_ n4_ n5_ n6_; (try clear hb); (try clear hb2); (try clear hk); (try clear hi)))
     go_meet
     case rel => exact ⟨_, (false), (by first | rfl | (simp; done) | (simp [*]; done)), H', ⟨by first | omega | exact Nat.le_refl _⟩, ⟨by (with_reducible repeat (first | apply Kd.R_alloc | apply Kd.R_drewN | apply Kd.R_drew)); exact Kd.R_mono HO293.out (fun _ hk => hk.2)⟩, ⟨by (with_reducible repeat (first | apply Kd.R_alloc | apply Kd.R_drewN | apply Kd.R_drew)); exact Kd.R_mono HO303.out (fun _ hk => hk.2)⟩, ⟨by (with_reducible repeat (first | refine kN_ ?_ _ | refine kd_ ?_ | refine ka_ ?_ _)); exact BK288.out⟩, ⟨by (with_reducible repeat (first | refine kN_ ?_ _ | refine kd_ ?_ | refine ka_ ?_ _)); exact BK289.out⟩, ⟨by (with_reducible repeat (first | refine kN_ ?_ _ | refine kd_ ?_ | refine ka_ ?_ _)); exact BK294.out⟩, ⟨by (with_reducible repeat (first | refine kN_ ?_ _ | refine kd_ ?_ | refine ka_ ?_ _)); exact BK304.out⟩, ⟨by repeat (first | (with_reducible first | exact HB.out | apply ba_ | apply pN_ | apply bd_ | refine bs_ ?_ GE288.out | refine bs_ ?_ GE289.out | refine bs_ ?_ GE294.out | refine bs_ ?_ GE304.out) | exact HB.out)⟩⟩
   ·rw [if_neg c50] at H
    exact absurd H (by simp)
  case rest =>
   clear HC27
   try clear c1
   try clear c2
   try clear p2
   try clear c3
   try clear c4
   try clear c5
   try clear c6
   try clear c6b0
   try clear p6
   try clear c7
   try clear c8
   try clear c10
   try clear c14
   try clear c15
   try clear c16
   try clear c17
   try clear c21
   try clear c23
   try clear c30
   try clear c34
   try clear c35
   try clear c45
   try clear c46
   try clear c47
   try clear c50
   try clear c50b0
   try clear c50b1
   try clear c52
   try clear c52b0
   try clear c52b1
   try clear c53
   try clear c53b0
   try clear c54
   try clear c55
   try clear c56
   try clear c60
   try clear c61
   try clear c62
   try clear p64
   try clear c65
   try clear c66
   try clear c69
   try clear c70
   try clear c71
   try clear c74
   try clear c74b0
   try clear c74b1
   try clear c75
   try clear c76
   try clear c77
   try clear c79
   try clear c79b0
   try clear c79b1
   try clear c80
   try clear c81
   try clear c82
   try clear c84
   try clear c84b0
   try clear c84b1
   try clear hcz11_0
   try clear hcz11_1
   try clear hcz11_2
   try clear hcz16_0
   try clear hcz16_1
   try clear hcz21_0
   try clear hcz21_1
   try clear hcz21_2
   try clear hcz22_0
   try clear hcz22_1
   try clear hcz24_0
   try clear hcz24_1
   try clear hcz31_0
   try clear hcz31_1
   try clear hcz31_2
   try clear hcz36_0
   try clear hcz36_1
   try clear hcz41_0
   try clear hcz41_1
   try clear hcz41_2
   try clear hcz42_0
   try clear hcz42_1
   try clear hcz48_0
   try clear hcz48_1
   try clear hcz57_0
   try clear hcz57_1
   try clear hcz63_0
   try clear hcz63_1
   try clear hcz67_0
   try clear hcz67_1
   try clear hcz72_0
   try clear hcz72_1
   try clear hcz78_0
   try clear hcz78_1
   try clear hcz78_2
   try clear hcz83_0
   try clear hcz83_1
   try clear hcz83_2
   try clear hfz11_0
   try clear hfz11_1
   try clear hfz11_2
   try clear hfz16_0
   try clear hfz16_1
   try clear hfz21_0
   try clear hfz21_1
   try clear hfz21_2
   try clear hfz22_0
   try clear hfz22_1
   try clear hfz24_0
   try clear hfz24_1
   try clear hfz31_0
   try clear hfz31_1
   try clear hfz31_2
   try clear hfz36_0
   try clear hfz36_1
   try clear hfz41_0
   try clear hfz41_1
   try clear hfz41_2
   try clear hfz42_0
   try clear hfz42_1
   try clear hfz48_0
   try clear hfz48_1
   try clear hfz57_0
   try clear hfz57_1
   try clear hfz63_0
   try clear hfz63_1
   try clear hfz67_0
   try clear hfz67_1
   try clear hfz72_0
   try clear hfz72_1
   try clear hfz78_0
   try clear hfz78_1
   try clear hfz78_2
   try clear hfz83_0
   try clear hfz83_1
   try clear hfz83_2
   obtain ⟨kq, x11_26, rfl, HA, HJ26, HO_295001, HO_305001, BK288, BK289, BK294, BK304, HB⟩ := hcut
   cases kq with
   | zero => exact absurd HA.out (by simp [spec_l03Multiple.j0])
   | succ kj26 =>
    have H := HA.out
    clear HA
    simp only [spec_l03Multiple.j0] at H
    by_cases c85 : x11_26 = true
    ·subst c85
     have H1 : ((spec_l02Of.f kj26 1).bind fun bt307 => ((spec_l02Add.f kj26 t300 t301 bt307.1 bt307.2).bind fun bt311 => (some (bt311.1, bt311.2, ji5, false)))) = some (r1, r2, r3, r4) := by rw [if_pos rfl] at H; exact H
     clear H
     have H := H1
     clear H1
     replace H := Option.bind_eq_some_iff.mp H
     obtain ⟨⟨t307, t308⟩, A860, H⟩ := H
     replace H : ((spec_l02Add.f kj26 t300 t301 t307 t308).bind fun bt311 => (some (bt311.1, bt311.2, ji5, false))) = some (r1, r2, r3, r4) := H
     have A86 := As_.mk A860
     clear A860
     replace H := Option.bind_eq_some_iff.mp H
     obtain ⟨⟨t311, t312⟩, A870, H⟩ := H
     replace H : (some (t311, t312, ji5, false)) = some (r1, r2, r3, r4) := H
     have A87 := As_.mk A870
     clear A870
     simp only [Option.some.injEq, Prod.mk.injEq] at H
     obtain ⟨rfl, rfl, rfl, rfl⟩ := H
     try go_wp2
     have n0_ := As_.mk (Kd.R_drew HO_295001.out)
     have n1_ := As_.mk (Kd.R_drew HO_305001.out)
     have n2_ := As_.mk (kd_ BK288.out)
     have n3_ := As_.mk (kd_ BK289.out)
     have n4_ := As_.mk (kd_ BK294.out)
     have n5_ := As_.mk (kd_ BK304.out)
     have n6_ := As_.mk (bd_ HB.out)
     clear HO_295001
     clear HO_305001
     clear BK288
     clear BK289
     clear BK294
     clear BK304
     clear HB
     have HO_295001 := n0_
     have HO_305001 := n1_
     have BK288 := n2_
     have BK289 := n3_
     have BK294 := n4_
     have BK304 := n5_
     have HB := n6_
     clear n0_ n1_ n2_ n3_ n4_ n5_ n6_
     refine start_ (n := 4) (S := fun w' => w'.cell? ⟨gb304, 0, none⟩ = some (.int .i64 t300) ∧ w'.cell? ⟨gb304, 1, none⟩ = some (.slice Ao49 t301.length co49)) (ds := [3]) #[false, false, false, false] (by kernel_rfl) rfl rfl ⟨(kc_ BK304.out 0).trans rfl, (kc_ BK304.out 1).trans rfl⟩ (fun hHeld => ?_)
     generalize wc.drew = w88 at HO_295001 HO_305001 BK288 BK289 BK294 BK304 HB hHeld ⊢
     refine take_ (i := 0) (N := some 68) (v := ?_) (a' := ?_) #[true, false, false, false] rfl rfl (by kernel_rfl) (fun _ _ _ h => h) (Or.inl ⟨by rfl, ?_⟩) hHeld ?_ ?_
     rotate_left
     ·rintro w' ⟨s0, s1⟩
      go_simp
      with_reducible rfl
     rotate_left
     ·simp only [Act.put, List.setIfInBounds_toArray, List.set_cons_zero, List.set_cons_succ, i64_w, i32_w]
      rfl
     refine one_ (i := 1) (N := some 69) #[true, true, false, false] rfl rfl (by kernel_rfl) (by decide) (fun K hK => ?_)
     refine goes_ Tryz.func162 (by kernel_rfl) rfl #[.int .i64 1] (by rfl) rfl rfl (by (try simp only [List.map_toArray, List.map_cons, List.map_nil]); first | done | rfl | (simp only [List.length_drop, List.length_take]; rfl)) ?_
     with_reducible refine (spec_l02Of.calls kj26 1 t307 t308 _ A86.out).mono ?_
     rintro e w89 ⟨v309, rfl, ho0, hb⟩
     refine ⟨_, rfl, ?_⟩
     have n0_ := As_.mk (Kd.R_elder' (by (with_reducible repeat (first | apply Kd.R_alloc | apply Kd.R_drewN | apply Kd.R_drew)); exact HO_295001.out) (Kd.R_base ho0) hb)
     have n1_ := As_.mk (Kd.R_elder' (by (with_reducible repeat (first | apply Kd.R_alloc | apply Kd.R_drewN | apply Kd.R_drew)); exact HO_305001.out) (Kd.R_base ho0) hb)
     have n2_ := As_.mk (Kd.R_lower (Kd.R_new' (Kd.R_new' ho0 (Kd.R_lt (by (with_reducible repeat (first | apply Kd.R_alloc | apply Kd.R_drewN | apply Kd.R_drew)); exact HO_295001.out))) (Kd.R_lt (by (with_reducible repeat (first | apply Kd.R_alloc | apply Kd.R_drewN | apply Kd.R_drew)); exact HO_305001.out))) (bz_ (by repeat (first | (with_reducible first | exact HB.out | apply ba_ | apply pN_ | apply bd_ | refine bs_ ?_ GE288.out | refine bs_ ?_ GE289.out | refine bs_ ?_ GE294.out | refine bs_ ?_ GE304.out) | exact HB.out))))
     have n3_ := As_.mk (kb_ (g := gb288) (o := .cells #[.int .i64 a0_0, .slice A0_1 l0_1.length c0_1, .int .i64 a0_2] 56 (0, 0)) (by (with_reducible repeat (first | refine kN_ ?_ _ | refine kd_ ?_ | refine ka_ ?_ _)); exact BK288.out) hb)
     have n4_ := As_.mk (kb_ (g := gb289) (o := .cells #[.int .i64 0, .slice none 0 0] 54 (0, 0)) (by (with_reducible repeat (first | refine kN_ ?_ _ | refine kd_ ?_ | refine ka_ ?_ _)); exact BK289.out) hb)
     have n5_ := As_.mk (kb_ (g := gb294) (o := .cells #[.int .i64 t290, .slice Ao37 t291.length co37] 54 (0, 0)) (by (with_reducible repeat (first | refine kN_ ?_ _ | refine kd_ ?_ | refine ka_ ?_ _)); exact BK294.out) hb)
     have n6_ := As_.mk (kb_ (g := gb304) (o := .cells #[.int .i64 t300, .slice Ao49 t301.length co49] 54 (0, 0)) (by (with_reducible repeat (first | refine kN_ ?_ _ | refine kd_ ?_ | refine ka_ ?_ _)); exact BK304.out) hb)
     have n7_ := As_.mk (bp_ (by repeat (first | (with_reducible first | exact HB.out | apply ba_ | apply pN_ | apply bd_ | refine bs_ ?_ GE288.out | refine bs_ ?_ GE289.out | refine bs_ ?_ GE294.out | refine bs_ ?_ GE304.out) | exact HB.out)) hb)
     clear HO_295001
     clear HO_305001
     clear BK288
     clear BK289
     clear BK294
     clear BK304
     clear HB
     have HO_295001 := n0_
     have HO_305001 := n1_
     have HO310 := n2_
     have BK288 := n3_
     have BK289 := n4_
     have BK294 := n5_
     have BK304 := n6_
     have HB := n7_
     clear n0_ n1_ n2_ n3_ n4_ n5_ n6_ n7_
     (try clear hb)
     (try clear hb2)
     (try clear hk)
     (try clear hi)
     (try clear ho0)
     obtain ⟨Ao90, co90, eo90⟩ := Kd.R_slice HO310.out
     (first | subst eo90 | (injection eo90 with f1_ f2_ f3_; have f4_ := f1_.symm; have f5_ := f3_.symm; clear f1_ f2_ f3_; subst f4_; subst f5_))
     refine hK.out _ _ ⟨(kc_ BK304.out 0).trans rfl, (kc_ BK304.out 1).trans rfl⟩ (fun hHeld => ?_)
     clear hK K
     refine norm_ (a' := ?_) ?_ ?_
     rotate_left
     ·show Act.put _ (some 69) _ = _
      simp only [Act.put, List.setIfInBounds_toArray, List.set_cons_zero, List.set_cons_succ, i64_w, i32_w]
      rfl
     refine one_ (i := 2) (N := some 70) #[true, true, true, false] rfl rfl (by kernel_rfl) (by decide) (fun K hK => ?_)
     refine goes_ Tryz.func215 (by kernel_rfl) rfl #[.agg #[.int .i64 t300, .slice Ao49 t301.length co49], .agg #[.int .i64 t307, .slice Ao90 t308.length co90]] (by rfl) rfl rfl (by (try simp only [List.map_toArray, List.map_cons, List.map_nil]); first | done | rfl | (simp only [List.length_drop, List.length_take]; rfl)) ?_
     with_reducible refine (spec_l02Add.calls kj26 t300 _ _ t301 t307 _ _ t308 t311 t312 _ ?side1 ?side2 ?side3 ?side4 A87.out).mono ?_
     (case side1 => repeat (first | exact (Kd.R_reads' HO_305001.out).2.2 | (with_reducible refine Kd.C_alloc ?_ _) | (with_reducible refine Kd.C_drewN ?_ _) | (with_reducible refine Kd.C_drew ?_)))
     (case side2 => exact (Kd.R_reads' HO_305001.out).2.1)
     (case side3 => repeat (first | exact (Kd.R_reads' HO310.out).2.2 | (with_reducible refine Kd.C_alloc ?_ _) | (with_reducible refine Kd.C_drewN ?_ _) | (with_reducible refine Kd.C_drew ?_)))
     (case side4 => exact (Kd.R_reads' HO310.out).2.1)
     rintro e w91 ⟨v313, rfl, ho0, hb⟩
     refine ⟨_, rfl, ?_⟩
     have n0_ := As_.mk (Kd.R_elder' (by (with_reducible repeat (first | apply Kd.R_alloc | apply Kd.R_drewN | apply Kd.R_drew)); exact HO_295001.out) (Kd.R_base ho0) hb)
     have n1_ := As_.mk (Kd.R_elder' (by (with_reducible repeat (first | apply Kd.R_alloc | apply Kd.R_drewN | apply Kd.R_drew)); exact HO_305001.out) (Kd.R_base ho0) hb)
     have n2_ := As_.mk (Kd.R_elder' (by (with_reducible repeat (first | apply Kd.R_alloc | apply Kd.R_drewN | apply Kd.R_drew)); exact HO310.out) (Kd.R_base ho0) hb)
     have n3_ := As_.mk (Kd.R_lower (Kd.R_new' (Kd.R_new' (Kd.R_new' ho0 (Kd.R_lt (by (with_reducible repeat (first | apply Kd.R_alloc | apply Kd.R_drewN | apply Kd.R_drew)); exact HO_295001.out))) (Kd.R_lt (by (with_reducible repeat (first | apply Kd.R_alloc | apply Kd.R_drewN | apply Kd.R_drew)); exact HO_305001.out))) (Kd.R_lt (by (with_reducible repeat (first | apply Kd.R_alloc | apply Kd.R_drewN | apply Kd.R_drew)); exact HO310.out))) (bz_ (by repeat (first | (with_reducible first | exact HB.out | apply ba_ | apply pN_ | apply bd_ | refine bs_ ?_ GE288.out | refine bs_ ?_ GE289.out | refine bs_ ?_ GE294.out | refine bs_ ?_ GE304.out) | exact HB.out))))
     have n4_ := As_.mk (kb_ (g := gb288) (o := .cells #[.int .i64 a0_0, .slice A0_1 l0_1.length c0_1, .int .i64 a0_2] 56 (0, 0)) (by (with_reducible repeat (first | refine kN_ ?_ _ | refine kd_ ?_ | refine ka_ ?_ _)); exact BK288.out) hb)
     have n5_ := As_.mk (kb_ (g := gb289) (o := .cells #[.int .i64 0, .slice none 0 0] 54 (0, 0)) (by (with_reducible repeat (first | refine kN_ ?_ _ | refine kd_ ?_ | refine ka_ ?_ _)); exact BK289.out) hb)
     have n6_ := As_.mk (kb_ (g := gb294) (o := .cells #[.int .i64 t290, .slice Ao37 t291.length co37] 54 (0, 0)) (by (with_reducible repeat (first | refine kN_ ?_ _ | refine kd_ ?_ | refine ka_ ?_ _)); exact BK294.out) hb)
     have n7_ := As_.mk (kb_ (g := gb304) (o := .cells #[.int .i64 t300, .slice Ao49 t301.length co49] 54 (0, 0)) (by (with_reducible repeat (first | refine kN_ ?_ _ | refine kd_ ?_ | refine ka_ ?_ _)); exact BK304.out) hb)
     have n8_ := As_.mk (bp_ (by repeat (first | (with_reducible first | exact HB.out | apply ba_ | apply pN_ | apply bd_ | refine bs_ ?_ GE288.out | refine bs_ ?_ GE289.out | refine bs_ ?_ GE294.out | refine bs_ ?_ GE304.out) | exact HB.out)) hb)
     clear HO_295001
     clear HO_305001
     clear HO310
     clear BK288
     clear BK289
     clear BK294
     clear BK304
     clear HB
     have HO_295001 := n0_
     have HO_305001 := n1_
     have HO310 := n2_
     have HO314 := n3_
     have BK288 := n4_
     have BK289 := n5_
     have BK294 := n6_
     have BK304 := n7_
     have HB := n8_
     clear n0_ n1_ n2_ n3_ n4_ n5_ n6_ n7_ n8_
     (try clear hb)
     (try clear hb2)
     (try clear hk)
     (try clear hi)
     (try clear ho0)
     obtain ⟨Ao93, co93, eo93⟩ := Kd.R_slice HO314.out
     (first | subst eo93 | (injection eo93 with f1_ f2_ f3_; have f4_ := f1_.symm; have f5_ := f3_.symm; clear f1_ f2_ f3_; subst f4_; subst f5_))
     refine hK.out _ _ ⟨(kc_ BK304.out 0).trans rfl, (kc_ BK304.out 1).trans rfl⟩ (fun hHeld => ?_)
     clear hK K
     refine norm_ (a' := ?_) ?_ ?_
     rotate_left
     ·show Act.put _ (some 70) _ = _
      simp only [Act.put, List.setIfInBounds_toArray, List.set_cons_zero, List.set_cons_succ, i64_w, i32_w]
      rfl
     refine last_ (i := 3) (N := none) #[true, true, true, true] rfl rfl (by kernel_rfl) (by decide) (fun K hK => ?_)
     have hs92 : w91.cell? ⟨gb304, 0, none⟩ = some (.int .i64 t300) := (kc_ BK304.out 0).trans rfl
     have hfs92 := kf_ BK304.out 0
     have hns92_0 := NB288_304.out
     have hns92_1 := NB289_304.out
     have hns92_2 := NB294_304.out
     have hms92_0 := NB304_288.out
     have hms92_1 := NB304_289.out
     have hms92_2 := NB304_294.out
     have hs94 : w91.cell? ⟨gb304, 1, none⟩ = some (.slice Ao49 t301.length co49) := (kc_ BK304.out 1).trans rfl
     have hfs94 := kf_ BK304.out 1
     have hns94_0 := NB288_304.out
     have hns94_1 := NB289_304.out
     have hns94_2 := NB294_304.out
     have hms94_0 := NB304_288.out
     have hms94_1 := NB304_289.out
     have hms94_2 := NB304_294.out
     refine skip_ (w1 := ?_) (by rfl) rfl ?_ ?_
     rotate_left
     ·go_simp
      rfl
     refine hK.out _ _ ?_
     clear hK K
     refine done_ (by kernel_rfl) ?_
     have hnb95 := NB304_288.out
     have hnc95 := NB288_304.out
     have hnb96 := NB304_289.out
     have hnc96 := NB289_304.out
     have hnb97 := NB304_294.out
     have hnc97 := NB294_304.out
     have hcz98_0 : w91.cell? ⟨gb304, 0, none⟩ = some (.int .i64 t300) := (kc_ BK304.out 0).trans rfl
     have hcz98_1 : w91.cell? ⟨gb304, 1, none⟩ = some (.slice Ao49 t301.length co49) := (kc_ BK304.out 1).trans rfl
     have hfz98_0 := kf_ BK304.out 0
     have hfz98_1 := kf_ BK304.out 1
     have hnb99 := NB289_288.out
     have hnc99 := NB288_289.out
     have hnb100 := NB289_294.out
     have hnc100 := NB294_289.out
     have hcz101_0 : w91.cell? ⟨gb289, 0, none⟩ = some (.int .i64 0) := (kc_ BK289.out 0).trans rfl
     have hcz101_1 : w91.cell? ⟨gb289, 1, none⟩ = some (.slice none 0 0) := (kc_ BK289.out 1).trans rfl
     have hfz101_0 := kf_ BK289.out 0
     have hfz101_1 := kf_ BK289.out 1
     try go_wp2
     refine bodyPost_ret (results_ctt rfl _ _ gb289 54 #[.int .i64 t311, .slice Ao93 t312.length co93] (0, 0) _ rfl (by (with_reducible repeat (first | refine kN_ ?_ _ | refine kd_ ?_ | refine ka_ ?_ _)); refine blk_put (cs := #[.int .i64 t311, .slice none 0 0]) ?_ 1 _ rfl; (with_reducible repeat (first | refine kN_ ?_ _ | refine kd_ ?_ | refine ka_ ?_ _)); refine blk_put (cs := #[.int .i64 0, .slice none 0 0]) ?_ 0 _ rfl; (with_reducible repeat (first | refine kN_ ?_ _ | refine kd_ ?_ | refine ka_ ?_ _)); refine blk_far ?_ NB289_304.out _; (with_reducible repeat (first | refine kN_ ?_ _ | refine kd_ ?_ | refine ka_ ?_ _)); refine blk_far ?_ NB289_304.out _; (with_reducible repeat (first | refine kN_ ?_ _ | refine kd_ ?_ | refine ka_ ?_ _)); exact BK289.out) Tryz.underlying54 rfl (by kernel_rfl)) rfl ?_
     exact ⟨_, by first | rfl | (simp [eN_, eS_] <;> rfl) | (simp only [← hji5]; first | rfl | (simp [eN_, eS_] <;> rfl)) | (simp [*, eN_, eS_] <;> rfl), by (with_reducible repeat (first | apply Kd.R_alloc | apply Kd.R_drewN | apply Kd.R_drew)); exact Kd.R_mono (Kd.R_far (p := ⟨gb289, 1, none⟩) (Kd.R_far (p := ⟨gb289, 0, none⟩) (Kd.R_far (p := ⟨gb304, 1, none⟩) (Kd.R_far (p := ⟨gb304, 0, none⟩) (Kd.R_types (Kd.R_types HO314.out BK304.out (by decide)) BK289.out (by decide)) (fun _ hk => hk.1.2) (.int .i64 t311)) (fun _ hk => hk.1.2) (.slice Ao93 t312.length co93)) (fun _ hk => hk.2) (.int .i64 t311)) (fun _ hk => hk.2) (.slice Ao93 t312.length co93)) (fun _ hk => trivial), by repeat (first | (with_reducible first | exact HB.out | apply ba_ | apply pN_ | apply bd_ | refine bs_ ?_ GE288.out | refine bs_ ?_ GE289.out | refine bs_ ?_ GE294.out | refine bs_ ?_ GE304.out) | exact HB.out)⟩
    ·replace c85 := Bool.eq_false_iff.mpr c85
     subst c85
     have H1 : (some (t300, t301, ji5, false)) = some (r1, r2, r3, r4) := by rw [if_neg (show ¬ (false = true) by decide)] at H; exact H
     clear H
     have H := H1
     clear H1
     simp only [Option.some.injEq, Prod.mk.injEq] at H
     obtain ⟨rfl, rfl, rfl, rfl⟩ := H
     have hnb102 := NB304_288.out
     have hnc102 := NB288_304.out
     have hnb103 := NB304_289.out
     have hnc103 := NB289_304.out
     have hnb104 := NB304_294.out
     have hnc104 := NB294_304.out
     have hcz105_0 : wc.cell? ⟨gb304, 0, none⟩ = some (.int .i64 t300) := (kc_ BK304.out 0).trans rfl
     have hcz105_1 : wc.cell? ⟨gb304, 1, none⟩ = some (.slice Ao49 t301.length co49) := (kc_ BK304.out 1).trans rfl
     have hfz105_0 := kf_ BK304.out 0
     have hfz105_1 := kf_ BK304.out 1
     have hnb106 := NB289_288.out
     have hnc106 := NB288_289.out
     have hnb107 := NB289_294.out
     have hnc107 := NB294_289.out
     have hcz108_0 : wc.cell? ⟨gb289, 0, none⟩ = some (.int .i64 0) := (kc_ BK289.out 0).trans rfl
     have hcz108_1 : wc.cell? ⟨gb289, 1, none⟩ = some (.slice none 0 0) := (kc_ BK289.out 1).trans rfl
     have hfz108_0 := kf_ BK289.out 0
     have hfz108_1 := kf_ BK289.out 1
     go_wp2
     refine bodyPost_ret (results_ctt rfl _ _ gb289 54 #[.int .i64 t300, .slice Ao49 t301.length co49] (0, 0) _ rfl (by (with_reducible repeat (first | refine kN_ ?_ _ | refine kd_ ?_ | refine ka_ ?_ _)); refine blk_put (cs := #[.int .i64 t300, .slice none 0 0]) ?_ 1 _ rfl; (with_reducible repeat (first | refine kN_ ?_ _ | refine kd_ ?_ | refine ka_ ?_ _)); refine blk_put (cs := #[.int .i64 0, .slice none 0 0]) ?_ 0 _ rfl; (with_reducible repeat (first | refine kN_ ?_ _ | refine kd_ ?_ | refine ka_ ?_ _)); exact BK289.out) Tryz.underlying54 rfl (by kernel_rfl)) rfl ?_
     exact ⟨_, by first | rfl | (simp [eN_, eS_] <;> rfl) | (simp only [← hji5]; first | rfl | (simp [eN_, eS_] <;> rfl)) | (simp [*, eN_, eS_] <;> rfl), by (with_reducible repeat (first | apply Kd.R_alloc | apply Kd.R_drewN | apply Kd.R_drew)); exact Kd.R_mono (Kd.R_far (p := ⟨gb289, 1, none⟩) (Kd.R_far (p := ⟨gb289, 0, none⟩) (Kd.R_types HO_305001.out BK289.out (by decide)) (fun _ hk => hk.2) (.int .i64 t300)) (fun _ hk => hk.2) (.slice Ao49 t301.length co49)) (fun _ hk => trivial), by repeat (first | (with_reducible first | exact HB.out | apply ba_ | apply pN_ | apply bd_ | refine bs_ ?_ GE288.out | refine bs_ ?_ GE289.out | refine bs_ ?_ GE294.out | refine bs_ ?_ GE304.out) | exact HB.out)⟩
end Go.Proofs.YtlogcnglmdpejaaGreatDoor.Pq
end
