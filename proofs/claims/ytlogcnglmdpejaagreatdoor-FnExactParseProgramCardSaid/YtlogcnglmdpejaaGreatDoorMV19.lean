/- Part 19 of the proof of the card of FnExactV: walks of the functions and plain facts on them. -/
import Derived.Test.YtlogcnglmdpejaaGreatDoorMV3
import Derived.Test.YtlogcnglmdpejaaGreatDoorMV11
section
namespace Go.Proofs.YtlogcnglmdpejaaGreatDoor.Pq
open Go.RowKit Go.Proofs.YtlogcnglmdpejaaGreatDoorW.PrintWords Go.Proofs.YtlogcnglmdpejaaGreatDoorW.PrintLast Go.Proofs.YtlogcnglmdpejaaGreatDoorW.PrintMore
attribute [local go_sem] max2_int min2_int max_two min_two max_three min_three max_four min_four
set_option linter.unusedVariables false
set_option linter.unusedSimpArgs false
def spec_l02Abs.f (k : Nat) (a0_0 : Int) (l0_1 : List Int) : Option (Int × List Int) := (spec_l02Make.f k (wrap64 (a0_0 * a0_0)) l0_1).bind fun bt175 => (some (bt175.1, bt175.2))
set_option maxHeartbeats 8000000 in
set_option maxRecDepth 100000 in
theorem spec_l02Abs.calls (k : Nat) (a0_0 : Int) (A0_1 : Option Addr) (c0_1 : Nat) (l0_1 : List Int) (r1 : Int) (r2 : List Int) (w : World) (hr0_1 : Kd.C (Kd.int .i64) w A0_1 l0_1.length l0_1) (hc0_1 : l0_1.length ≤ c0_1) (h : spec_l02Abs.f k a0_0 l0_1 = some (r1, r2)) :
  Calls Tryz.prog 165 #[.agg #[.int .i64 a0_0, .slice A0_1 l0_1.length c0_1]] w fun e w' => ∃ v1_ : Value, e = .returned (.agg #[.int .i64 r1, v1_]) ∧ Kd.R (Kd.int .i64) 2 w' w.heap.size (fun _ => True) v1_ r2 ∧ Below w.heap.size w w' := by
 have hu54 := Tryz.underlying54
 have HR0_1 := As_.mk hr0_1
 have HC0_1 := As_.mk hc0_1
 clear hr0_1 hc0_1
 have HB := As_.mk (Below.refl w.heap.size w)
 have H : ((spec_l02Make.f k (wrap64 (a0_0 * a0_0)) l0_1).bind fun bt175 => (some (bt175.1, bt175.2))) = some (r1, r2) := h
 clear h
 replace H := Option.bind_eq_some_iff.mp H
 obtain ⟨⟨t175, t176⟩, A20, H⟩ := H
 replace H : (some (t175, t176)) = some (r1, r2) := H
 have A2 := As_.mk A20
 clear A20
 simp only [Option.some.injEq, Prod.mk.injEq] at H
 obtain ⟨rfl, rfl⟩ := H
 go_enter Tryz.func165, Tryz.ntmps165
 go_wp2_with (first | ((with_reducible refine gate_dst (N := 1) rfl ?_); refine box_event ?hg (N := 1) ?hd (cs := #[.int .i64 a0_0, .slice A0_1 l0_1.length c0_1]) (t := 54) ?hr ?_; (case hd => rfl); (case hg => rfl); (case hr => first | (go_simp; done) | (go_simp; rfl)); intro gb173 hg w3 hbox hb; have n0_ := As_.mk (bp_ (by repeat (first | (with_reducible first | exact HB.out | apply ba_ | apply pN_ | apply bd_) | exact HB.out)) hb); have n1_ := As_.mk (hbox); have n2_ := As_.mk ((by rw [hg]; exact (bz_ (by repeat (first | (with_reducible first | exact HB.out | apply ba_ | apply pN_ | apply bd_) | exact HB.out))) : w.heap.size ≤ gb173)); have n3_ := As_.mk ((by rw [hg]; exact (bz_ (by repeat (first | (with_reducible first | exact HB.out | apply ba_ | apply pN_ | apply bd_) | exact HB.out))) : w.heap.size ≤ gb173)); clear HB; have HB := n0_; have BK173 := n1_; have GW173 := n2_; have GE173 := n3_; clear n0_ n1_ n2_ n3_; clear hb hbox hg) | ((with_reducible refine gate_dst (N := 2) rfl ?_); refine box_event ?hg (N := 2) ?hd (cs := #[.int .i64 0, .slice none 0 0]) (t := 54) ?hr ?_; (case hd => rfl); (case hg => rfl); (case hr => first | (go_simp; done) | (go_simp; rfl)); intro gb174 hg w4 hbox hb; have n0_ := As_.mk (kb_ (g := gb173) (o := .cells #[.int .i64 a0_0, .slice A0_1 l0_1.length c0_1] 54 (0, 0)) (by (with_reducible repeat (first | refine kN_ ?_ _ | refine kd_ ?_ | refine ka_ ?_ _)); exact BK173.out) hb); have n1_ := As_.mk (bp_ (by repeat (first | (with_reducible first | exact HB.out | apply ba_ | apply pN_ | apply bd_ | refine bs_ ?_ GE173.out) | exact HB.out)) hb); have n2_ := As_.mk (hbox); have n3_ := As_.mk ((by rw [hg]; exact (bz_ (by repeat (first | (with_reducible first | exact HB.out | apply ba_ | apply pN_ | apply bd_ | refine bs_ ?_ GE173.out) | exact HB.out))) : w.heap.size ≤ gb174)); have n4_ := As_.mk ((by rw [hg]; exact (bz_ (by repeat (first | (with_reducible first | exact HB.out | apply ba_ | apply pN_ | apply bd_ | refine bs_ ?_ GE173.out) | exact HB.out))) : w.heap.size ≤ gb174)); have n5_ := As_.mk ((by rw [hg]; exact Nat.ne_of_lt (blk_lt (g := gb173) (o := .cells #[.int .i64 a0_0, .slice A0_1 l0_1.length c0_1] 54 (0, 0)) (by (with_reducible repeat (first | refine kN_ ?_ _ | refine kd_ ?_ | refine ka_ ?_ _)); exact BK173.out)) : gb173 ≠ gb174)); have n6_ := As_.mk ((by rw [hg]; exact Nat.ne_of_gt (blk_lt (g := gb173) (o := .cells #[.int .i64 a0_0, .slice A0_1 l0_1.length c0_1] 54 (0, 0)) (by (with_reducible repeat (first | refine kN_ ?_ _ | refine kd_ ?_ | refine ka_ ?_ _)); exact BK173.out)) : gb174 ≠ gb173)); clear BK173; clear HB; have BK173 := n0_; have HB := n1_; have BK174 := n2_; have GW174 := n3_; have GE174 := n4_; have NB173_174 := n5_; have NB174_173 := n6_; clear n0_ n1_ n2_ n3_ n4_ n5_ n6_; clear hb hbox hg; have hnb5 := NB173_174.out; have hnc5 := NB174_173.out; have hcz6_0 : w4.cell? ⟨gb173, 0, none⟩ = some (.int .i64 a0_0) := (kc_ BK173.out 0).trans rfl; have hcz6_1 : w4.cell? ⟨gb173, 1, none⟩ = some (.slice A0_1 l0_1.length c0_1) := (kc_ BK173.out 1).trans rfl; have hfz6_0 := kf_ BK173.out 0; have hfz6_1 := kf_ BK173.out 1) | ((with_reducible refine gate_callee (f := 212) rfl ?_); refine goesL_ (some 10) rfl rfl Tryz.func212 (by kernel_rfl) rfl #[.int .i64 (wrap64 (a0_0 * a0_0)), .slice A0_1 l0_1.length c0_1] rfl (by (try simp only [List.map_toArray, List.map_cons, List.map_nil]); first | done | rfl | (simp only [List.length_drop, List.length_take]; rfl)) ?_; (with_reducible refine (spec_l02Make.calls k (wrap64 (a0_0 * a0_0)) _ _ l0_1 t175 t176 _ ?side1 ?side2 A2.out).mono ?_); (case side1 => repeat (first | exact (Kd.C_below HR0_1.out HB.out) | (with_reducible refine Kd.C_alloc ?_ _) | (with_reducible refine Kd.C_drewN ?_ _) | (with_reducible refine Kd.C_drew ?_))); (case side2 => exact HC0_1.out); rintro e w7 ⟨v177, rfl, ho0, hb⟩; refine ⟨_, rfl, ?_⟩; have n0_ := As_.mk (Kd.R_lower ho0 (bz_ (by repeat (first | (with_reducible first | exact HB.out | apply ba_ | apply pN_ | apply bd_ | refine bs_ ?_ GE173.out | refine bs_ ?_ GE174.out) | exact HB.out)))); have n1_ := As_.mk (kb_ (g := gb173) (o := .cells #[.int .i64 a0_0, .slice A0_1 l0_1.length c0_1] 54 (0, 0)) (by (with_reducible repeat (first | refine kN_ ?_ _ | refine kd_ ?_ | refine ka_ ?_ _)); exact BK173.out) hb); have n2_ := As_.mk (kb_ (g := gb174) (o := .cells #[.int .i64 0, .slice none 0 0] 54 (0, 0)) (by (with_reducible repeat (first | refine kN_ ?_ _ | refine kd_ ?_ | refine ka_ ?_ _)); exact BK174.out) hb); have n3_ := As_.mk (bp_ (by repeat (first | (with_reducible first | exact HB.out | apply ba_ | apply pN_ | apply bd_ | refine bs_ ?_ GE173.out | refine bs_ ?_ GE174.out) | exact HB.out)) hb); clear BK173; clear BK174; clear HB; have HO178 := n0_; have BK173 := n1_; have BK174 := n2_; have HB := n3_; clear n0_ n1_ n2_ n3_; (try clear hb); (try clear hb2); (try clear hk); (try clear hi); (try clear ho0); have hcz8_0 : w7.cell? ⟨gb174, 0, none⟩ = some (.int .i64 0) := (kc_ BK174.out 0).trans rfl; have hcz8_1 : w7.cell? ⟨gb174, 1, none⟩ = some (.slice none 0 0) := (kc_ BK174.out 1).trans rfl; have hfz8_0 := kf_ BK174.out 0; have hfz8_1 := kf_ BK174.out 1; obtain ⟨Ao9, co9, eo9⟩ := Kd.R_slice HO178.out; subst eo9))
 refine bodyPost_ret (results_cell_row rfl _ _ gb174 54 #[.int .i64 t175, .slice Ao9 t176.length co9] (0, 0) _ rfl (by (with_reducible repeat (first | refine kN_ ?_ _ | refine kd_ ?_ | refine ka_ ?_ _)); refine blk_put (cs := #[.int .i64 t175, .slice none 0 0]) ?_ 1 _ rfl; (with_reducible repeat (first | refine kN_ ?_ _ | refine kd_ ?_ | refine ka_ ?_ _)); refine blk_put (cs := #[.int .i64 0, .slice none 0 0]) ?_ 0 _ rfl; (with_reducible repeat (first | refine kN_ ?_ _ | refine kd_ ?_ | refine ka_ ?_ _)); exact BK174.out) Tryz.underlying54 rfl (by kernel_rfl)) rfl ?_
 exact ⟨_, by first | rfl | (simp [eN_, eS_] <;> rfl) | (simp [*, eN_, eS_] <;> rfl), by (with_reducible repeat (first | apply Kd.R_alloc | apply Kd.R_drewN | apply Kd.R_drew)); exact Kd.R_mono (Kd.R_far (p := ⟨gb174, 1, none⟩) (Kd.R_far (p := ⟨gb174, 0, none⟩) (Kd.R_types HO178.out BK174.out (by decide)) (fun _ hk => hk.2) (.int .i64 t175)) (fun _ hk => hk.2) (.slice Ao9 t176.length co9)) (fun _ hk => trivial), by repeat (first | (with_reducible first | exact HB.out | apply ba_ | apply pN_ | apply bd_ | refine bs_ ?_ GE173.out | refine bs_ ?_ GE174.out) | exact HB.out)⟩
mutual
def spec_l02Of.j0 : Nat → Int → Int → List Int → Option (Int × List Int)
 | 0, _, _, _ => none
 | k + 1, x0, x3, x4 => spec_l02Of.l0 k x0 x3 x4
def spec_l02Of.l0 : Nat → Int → Int → List Int → Option (Int × List Int)
 | 0, _, _, _ => none
 | k + 1, x0, x3, x4 => if x0 = 0 then ((spec_l02Make.f k x3 x4).bind fun bt163 => (some (bt163.1, bt163.2))) else (if (Int.tmod x0 16777216) < 0 then (if x4.length < 17592186044416 then (spec_l02Of.l0 k (wrap64 (Int.tdiv x0 16777216)) x3 (x4 ++ [wrap64 (-(Int.tmod x0 16777216))])) else (none)) else (if x4.length < 17592186044416 then (spec_l02Of.l0 k (wrap64 (Int.tdiv x0 16777216)) x3 (x4 ++ [Int.tmod x0 16777216])) else (none)))
end
def spec_l02Of.f (k : Nat) (a0 : Int) : Option (Int × List Int) := (some (([] : List Int) : List Int)).bind fun y160 => (if a0 < 0 then (spec_l02Of.j0 k a0 (-1) y160) else (spec_l02Of.j0 k a0 1 y160))
set_option maxHeartbeats 8000000 in
set_option maxRecDepth 100000 in
theorem spec_l02Of.calls (k : Nat) (a0 : Int) (r1 : Int) (r2 : List Int) (w : World) (h : spec_l02Of.f k a0 = some (r1, r2)) :
  Calls Tryz.prog 162 #[.int .i64 a0] w fun e w' => ∃ v1_ : Value, e = .returned (.agg #[.int .i64 r1, v1_]) ∧ Kd.R (Kd.int .i64) 2 w' w.heap.size (fun _ => True) v1_ r2 ∧ Below w.heap.size w w' := by
 have hu54 := Tryz.underlying54
 have HB := As_.mk (Below.refl w.heap.size w)
 have H : ((some (([] : List Int) : List Int)).bind fun y160 => (if a0 < 0 then (spec_l02Of.j0 k a0 (-1) y160) else (spec_l02Of.j0 k a0 1 y160))) = some (r1, r2) := h
 clear h
 obtain ⟨y160, hy160⟩ : ∃ y_ : List Int, y_ = (([] : List Int)) := ⟨_, rfl⟩
 replace H : (if a0 < 0 then (spec_l02Of.j0 k a0 (-1) y160) else (spec_l02Of.j0 k a0 1 y160)) = some (r1, r2) := by first | (rw [hy160]; with_reducible exact H) | (have H2_ := (Option.bind_some _ _).symm.trans H; rw [hy160]; with_reducible exact H2_) | (have H2_ := (Option.bind_some _ _).symm.trans H; with_reducible exact H2_) | with_reducible exact H | (rw [hy160]; exact H) | exact H
 have Ny160 := As_.mk hy160
 clear hy160
 have HC2 := As_.mk H
 clear H
 go_enter Tryz.func162, Tryz.ntmps162
 go_upto_if 8 with (first | ((with_reducible refine gate_dst (N := 2) rfl ?_); refine box_event ?hg (N := 2) ?hd (cs := #[.int .i64 0, .slice none 0 0]) (t := 54) ?hr ?_; (case hd => rfl); (case hg => rfl); (case hr => first | (go_simp; done) | (go_simp; rfl)); intro gb159 hg w3 hbox hb; have n0_ := As_.mk (bp_ (by repeat (first | (with_reducible first | exact HB.out | apply ba_ | apply pN_ | apply bd_) | exact HB.out)) hb); have n1_ := As_.mk (hbox); have n2_ := As_.mk ((by rw [hg]; exact (bz_ (by repeat (first | (with_reducible first | exact HB.out | apply ba_ | apply pN_ | apply bd_) | exact HB.out))) : w.heap.size ≤ gb159)); have n3_ := As_.mk ((by rw [hg]; exact (bz_ (by repeat (first | (with_reducible first | exact HB.out | apply ba_ | apply pN_ | apply bd_) | exact HB.out))) : w.heap.size ≤ gb159)); clear HB; have HB := n0_; have BK159 := n1_; have GW159 := n2_; have GE159 := n3_; clear n0_ n1_ n2_ n3_; clear hb hbox hg) | ((with_reducible refine gate_dst (N := 6) rfl ?_); refine Kd.R_lit (Kd.int .i64) _ 2 ?hg (N := 6) ?hd (xs := ([] : List Int)) (inner := []) (ok := fun _ => True) (okp := fun _ => True) ?hr ?hp (fun _ hk => hk) trivial (Below.refl _ _) (Nat.le_refl _) (by simp) ?_; (case hd => rfl); (case hg => rfl); (case hr => first | (go_simp; done) | (go_simp; rfl)); (case hp => exact (Reps.none _ _)); intro v161 w4 ho5 hb hg_ hnew_; clear hg_ hnew_; (first | rw [← Ny160.out] at ho5 | (simp only [Int.reduceToNat] at ho5; rw [← Ny160.out] at ho5)); have n0_ := As_.mk (Kd.R_lower ho5 (bz_ (by repeat (first | (with_reducible first | exact HB.out | apply ba_ | apply pN_ | apply bd_ | refine bs_ ?_ GE159.out) | exact HB.out)))); have n1_ := As_.mk (kb_ (g := gb159) (o := .cells #[.int .i64 0, .slice none 0 0] 54 (0, 0)) (by (with_reducible repeat (first | refine kN_ ?_ _ | refine kd_ ?_ | refine ka_ ?_ _)); exact BK159.out) hb); have n2_ := As_.mk (bp_ (by repeat (first | (with_reducible first | exact HB.out | apply ba_ | apply pN_ | apply bd_ | refine bs_ ?_ GE159.out) | exact HB.out)) hb); clear BK159; clear HB; have HO162 := n0_; have BK159 := n1_; have HB := n2_; clear n0_ n1_ n2_; clear hb ho5))
 (try simp only [Act.put, List.setIfInBounds_toArray, List.set_cons_zero, List.set_cons_succ])
 go_cut [3] (fun v3 wc => ∃ (kq : Nat) (x3_1 : Int), v3 = .int .i64 x3_1 ∧ As_ (spec_l02Of.j0 kq a0 x3_1 y160 = some (r1, r2)) ∧ As_ (kq ≤ k) ∧ As_ (Kd.R (Kd.int .i64) 2 wc w.heap.size (fun _ => True) v161 y160) ∧ As_ (wc.heap[gb159]? = some (.cells #[.int .i64 0, (.slice none 0 0)] 54 (0, 0))) ∧ As_ (Below w.heap.size w wc))
 case first =>
  have H := HC2.out
  clear HC2
  by_cases c6 : a0 < 0
  ·rw [if_pos c6] at H
   have c6b0 : decide (a0 < 0) = true := decide_eq_true c6
   clear c6
   (first | rw [c6b0] | (simp only [i64_w, i32_w]; rw [c6b0]) | skip)
   have H' := As_.mk H
   clear H
   go_wp2
   go_meet
   case rel => exact ⟨_, ((-1)), (by first | rfl | (simp; done) | (simp [*]; done)), H', ⟨by first | omega | exact Nat.le_refl _⟩, ⟨by (with_reducible repeat (first | apply Kd.R_alloc | apply Kd.R_drewN | apply Kd.R_drew)); exact HO162.out⟩, ⟨by (with_reducible repeat (first | refine kN_ ?_ _ | refine kd_ ?_ | refine ka_ ?_ _)); exact BK159.out⟩, ⟨by repeat (first | (with_reducible first | exact HB.out | apply ba_ | apply pN_ | apply bd_ | refine bs_ ?_ GE159.out) | exact HB.out)⟩⟩
  ·rw [if_neg c6] at H
   have c6b0 : decide (a0 < 0) = false := decide_eq_false c6
   clear c6
   (first | rw [c6b0] | (simp only [i64_w, i32_w]; rw [c6b0]) | skip)
   have H' := As_.mk H
   clear H
   go_wp2
   go_meet
   case rel => exact ⟨_, (1), (by first | rfl | (simp; done) | (simp [*]; done)), H', ⟨by first | omega | exact Nat.le_refl _⟩, ⟨by (with_reducible repeat (first | apply Kd.R_alloc | apply Kd.R_drewN | apply Kd.R_drew)); exact HO162.out⟩, ⟨by (with_reducible repeat (first | refine kN_ ?_ _ | refine kd_ ?_ | refine ka_ ?_ _)); exact BK159.out⟩, ⟨by repeat (first | (with_reducible first | exact HB.out | apply ba_ | apply pN_ | apply bd_ | refine bs_ ?_ GE159.out) | exact HB.out)⟩⟩
 case rest =>
  clear HC2
  try clear c1
  try clear p2
  try clear c6
  try clear c6b0
  obtain ⟨kq, x3_1, rfl, HA, HJ1, HO_4, BK159, HB⟩ := hcut
  cases kq with
  | zero => exact absurd HA.out (by simp [spec_l02Of.j0])
  | succ kj1 =>
   have H := HA.out
   clear HA
   simp only [spec_l02Of.j0] at H
   have H' := As_.mk H
   clear H
   go_wp2
   go_loopg [0, 4] kj1 (fun kq v0 v4 w' => ∃ (x0_2 : Int) (x4_2 : List Int), v0 = .int .i64 x0_2 ∧ As_ (spec_l02Of.l0 kq x0_2 x3_1 x4_2 = some (r1, r2)) ∧ As_ (kq ≤ kj1) ∧ As_ (Kd.R (Kd.int .i64) 2 w' w.heap.size (fun _ => True) v4 x4_2) ∧ As_ (w'.heap[gb159]? = some (.cells #[.int .i64 0, (.slice none 0 0)] 54 (0, 0))) ∧ As_ (Below w.heap.size w w'))
   case atStart => exact ⟨(a0), (y160), (by first | rfl | (simp; done) | (simp [*]; done)), H', ⟨Nat.le_refl _⟩, ⟨by (with_reducible repeat (first | apply Kd.R_alloc | apply Kd.R_drewN | apply Kd.R_drew)); exact HO_4.out⟩, ⟨by (with_reducible repeat (first | refine kN_ ?_ _ | refine kd_ ?_ | refine ka_ ?_ _)); exact BK159.out⟩, ⟨by repeat (first | (with_reducible first | exact HB.out | apply ba_ | apply pN_ | apply bd_ | refine bs_ ?_ GE159.out) | exact HB.out)⟩⟩
   case round =>
    clear H'
    try clear c1
    try clear p2
    try clear c6
    try clear c6b0
    try clear p2
    obtain ⟨x0_2, x4_2, rfl, HA, HK2, HO_4, BK159, HB⟩ := hrel
    cases gk with
    | zero => exact absurd HA.out (by simp [spec_l02Of.l0])
    | succ k2 =>
     have H := HA.out
     clear HA
     simp only [spec_l02Of.l0] at H
     by_cases c7 : x0_2 = 0
     ·rw [if_pos c7] at H
      have c7b0 : (x0_2 == 0) = true := beq_iff_eq.mpr c7
      have c7b1 : (x0_2 != 0) = false := bne_eq_false_iff_eq.mpr c7
      clear c7
      replace H := Option.bind_eq_some_iff.mp H
      obtain ⟨⟨t163, t164⟩, A80, H⟩ := H
      replace H : (some (t163, t164)) = some (r1, r2) := H
      have A8 := As_.mk A80
      clear A80
      simp only [Option.some.injEq, Prod.mk.injEq] at H
      obtain ⟨rfl, rfl⟩ := H
      obtain ⟨Ao9, co9, eo9⟩ := Kd.R_slice HO_4.out
      subst eo9
      go_wp2_with (first | ((with_reducible refine gate_callee (f := 212) rfl ?_); refine goesL_ (some 25) rfl rfl Tryz.func212 (by kernel_rfl) rfl #[.int .i64 x3_1, .slice Ao9 x4_2.length co9] rfl (by (try simp only [List.map_toArray, List.map_cons, List.map_nil]); first | done | rfl | (simp only [List.length_drop, List.length_take]; rfl)) ?_; (with_reducible refine (spec_l02Make.calls k2 x3_1 _ _ x4_2 t163 t164 _ ?side1 ?side2 A8.out).mono ?_); (case side1 => repeat (first | exact (Kd.R_reads' HO_4.out).2.2 | (with_reducible refine Kd.C_alloc ?_ _) | (with_reducible refine Kd.C_drewN ?_ _) | (with_reducible refine Kd.C_drew ?_))); (case side2 => exact (Kd.R_reads' HO_4.out).2.1); rintro e w10 ⟨v165, rfl, ho0, hb⟩; refine ⟨_, rfl, ?_⟩; have n0_ := As_.mk (Kd.R_elder' (by (with_reducible repeat (first | apply Kd.R_alloc | apply Kd.R_drewN | apply Kd.R_drew)); exact HO_4.out) (Kd.R_base ho0) hb); have n1_ := As_.mk (Kd.R_lower (Kd.R_new' ho0 (Kd.R_lt (by (with_reducible repeat (first | apply Kd.R_alloc | apply Kd.R_drewN | apply Kd.R_drew)); exact HO_4.out))) (bz_ (by repeat (first | (with_reducible first | exact HB.out | apply ba_ | apply pN_ | apply bd_ | refine bs_ ?_ GE159.out) | exact HB.out)))); have n2_ := As_.mk (kb_ (g := gb159) (o := .cells #[.int .i64 0, .slice none 0 0] 54 (0, 0)) (by (with_reducible repeat (first | refine kN_ ?_ _ | refine kd_ ?_ | refine ka_ ?_ _)); exact BK159.out) hb); have n3_ := As_.mk (bp_ (by repeat (first | (with_reducible first | exact HB.out | apply ba_ | apply pN_ | apply bd_ | refine bs_ ?_ GE159.out) | exact HB.out)) hb); clear HO_4; clear BK159; clear HB; have HO_4 := n0_; have HO166 := n1_; have BK159 := n2_; have HB := n3_; clear n0_ n1_ n2_ n3_; (try clear hb); (try clear hb2); (try clear hk); (try clear hi); (try clear ho0); have hcz11_0 : w10.cell? ⟨gb159, 0, none⟩ = some (.int .i64 0) := (kc_ BK159.out 0).trans rfl; have hcz11_1 : w10.cell? ⟨gb159, 1, none⟩ = some (.slice none 0 0) := (kc_ BK159.out 1).trans rfl; have hfz11_0 := kf_ BK159.out 0; have hfz11_1 := kf_ BK159.out 1; obtain ⟨Ao12, co12, eo12⟩ := Kd.R_slice HO166.out; subst eo12))
      refine bodyPost_ret (results_cell_row rfl _ _ gb159 54 #[.int .i64 t163, .slice Ao12 t164.length co12] (0, 0) _ rfl (by (with_reducible repeat (first | refine kN_ ?_ _ | refine kd_ ?_ | refine ka_ ?_ _)); refine blk_put (cs := #[.int .i64 t163, .slice none 0 0]) ?_ 1 _ rfl; (with_reducible repeat (first | refine kN_ ?_ _ | refine kd_ ?_ | refine ka_ ?_ _)); refine blk_put (cs := #[.int .i64 0, .slice none 0 0]) ?_ 0 _ rfl; (with_reducible repeat (first | refine kN_ ?_ _ | refine kd_ ?_ | refine ka_ ?_ _)); exact BK159.out) Tryz.underlying54 rfl (by kernel_rfl)) rfl ?_
      exact ⟨_, by first | rfl | (simp [eN_, eS_] <;> rfl) | (simp [*, eN_, eS_] <;> rfl), by (with_reducible repeat (first | apply Kd.R_alloc | apply Kd.R_drewN | apply Kd.R_drew)); exact Kd.R_mono (Kd.R_far (p := ⟨gb159, 1, none⟩) (Kd.R_far (p := ⟨gb159, 0, none⟩) (Kd.R_types HO166.out BK159.out (by decide)) (fun _ hk => hk.2) (.int .i64 t163)) (fun _ hk => hk.2) (.slice Ao12 t164.length co12)) (fun _ hk => trivial), by repeat (first | (with_reducible first | exact HB.out | apply ba_ | apply pN_ | apply bd_ | refine bs_ ?_ GE159.out) | exact HB.out)⟩
     ·rw [if_neg c7] at H
      have c7b0 : (x0_2 == 0) = false := beq_eq_false_iff_ne.mpr c7
      have c7b1 : (x0_2 != 0) = true := bne_iff_ne.mpr c7
      by_cases c13 : (Int.tmod x0_2 16777216) < 0
      ·rw [if_pos c13] at H
       have c13b0 : decide ((Int.tmod x0_2 16777216) < 0) = true := decide_eq_true c13
       clear c13
       by_cases c14 : x4_2.length < 17592186044416
       ·rw [if_pos c14] at H
        have LMc14 := As_.mk c14
        clear c14
        obtain ⟨y167, hy167⟩ : ∃ y_ : List Int, y_ = (x4_2 ++ [wrap64 (-(Int.tmod x0_2 16777216))]) := ⟨_, rfl⟩
        replace H : (spec_l02Of.l0 k2 (wrap64 (Int.tdiv x0_2 16777216)) x3_1 y167) = some (r1, r2) := by first | (rw [hy167]; with_reducible exact H) | (have H2_ := (Option.bind_some _ _).symm.trans H; rw [hy167]; with_reducible exact H2_) | (have H2_ := (Option.bind_some _ _).symm.trans H; with_reducible exact H2_) | with_reducible exact H | (rw [hy167]; exact H) | exact H
        have Ny167 := As_.mk hy167
        clear hy167
        have H' := As_.mk H
        clear H
        go_wp2_with (first | ((with_reducible refine gate_builtin (b := .append) (xs := #[.tmp 17, .tmp 19]) rfl ?_); at_builtin; refine Kd.R_append (Kd.int .i64) (w0 := w) w.heap.size rfl (.tmp 17) (.tmp 19) 52 2 (.int .i64 0) 8 rfl Tryz.underlying52 info2 rfl (by decide) (by omega) u4 x4_2 (wrap64 (-(Int.tmod x0_2 16777216))) [.int .i64 (wrap64 (-(Int.tmod x0_2 16777216)))] (fun _ => True) (fun _ => False) rfl rfl ?aP (fun _ hk => hk.elim) ?aF ?aO ?aB ?aS ?aL ?_; (case aP => exact rfl); (case aB => exact (by repeat (first | (with_reducible first | exact HB.out | apply ba_ | apply pN_ | apply bd_ | refine bs_ ?_ GE159.out) | exact HB.out))); (case aF => exact (fun _ _ => trivial)); (case aO => exact (by (with_reducible repeat (first | apply Kd.R_alloc | apply Kd.R_drewN | apply Kd.R_drew)); exact HO_4.out)); (case aS => exact (bz_ (by repeat (first | (with_reducible first | exact HB.out | apply ba_ | apply pN_ | apply bd_ | refine bs_ ?_ GE159.out) | exact HB.out)))); (case aL => have := LMc14.out; omega); intro v168 w15 ho hb hg hat; rw [← Ny167.out] at ho; have n0_ := As_.mk (blk_grown (g := gb159) (o := .cells #[.int .i64 0, .slice none 0 0] 54 (0, 0)) (by (with_reducible repeat (first | refine kN_ ?_ _ | refine kd_ ?_ | refine ka_ ?_ _)); exact BK159.out) hg (Kd.R_ne HO_4.out BK159.out (by decide))); have n1_ := As_.mk (hb); have n2_ := As_.mk (ho); clear BK159; clear HB; clear HO_4; have BK159 := n0_; have HB := n1_; have HO169 := n2_; clear n0_ n1_ n2_; clear ho hb hg hat))
        go_roundg k2
        case measure => have := HJ1.out; have := HK2.out; omega
        case rel => exact ⟨(wrap64 (Int.tdiv x0_2 16777216)), (y167), (by first | rfl | (simp; done) | (simp [*]; done)), H', ⟨by have := HJ1.out; have := HK2.out; omega⟩, ⟨by (with_reducible repeat (first | apply Kd.R_alloc | apply Kd.R_drewN | apply Kd.R_drew)); exact HO169.out⟩, ⟨by (with_reducible repeat (first | refine kN_ ?_ _ | refine kd_ ?_ | refine ka_ ?_ _)); exact BK159.out⟩, ⟨by repeat (first | (with_reducible first | exact HB.out | apply ba_ | apply pN_ | apply bd_ | refine bs_ ?_ GE159.out) | exact HB.out)⟩⟩
       ·rw [if_neg c14] at H
        exact absurd H (by simp)
      ·rw [if_neg c13] at H
       have c13b0 : decide ((Int.tmod x0_2 16777216) < 0) = false := decide_eq_false c13
       clear c13
       by_cases c16 : x4_2.length < 17592186044416
       ·rw [if_pos c16] at H
        have LMc16 := As_.mk c16
        clear c16
        obtain ⟨y170, hy170⟩ : ∃ y_ : List Int, y_ = (x4_2 ++ [Int.tmod x0_2 16777216]) := ⟨_, rfl⟩
        replace H : (spec_l02Of.l0 k2 (wrap64 (Int.tdiv x0_2 16777216)) x3_1 y170) = some (r1, r2) := by first | (rw [hy170]; with_reducible exact H) | (have H2_ := (Option.bind_some _ _).symm.trans H; rw [hy170]; with_reducible exact H2_) | (have H2_ := (Option.bind_some _ _).symm.trans H; with_reducible exact H2_) | with_reducible exact H | (rw [hy170]; exact H) | exact H
        have Ny170 := As_.mk hy170
        clear hy170
        have H' := As_.mk H
        clear H
        go_wp2_with (first | ((with_reducible refine gate_builtin (b := .append) (xs := #[.tmp 17, .tmp 19]) rfl ?_); at_builtin; refine Kd.R_append (Kd.int .i64) (w0 := w) w.heap.size rfl (.tmp 17) (.tmp 19) 52 2 (.int .i64 0) 8 rfl Tryz.underlying52 info2 rfl (by decide) (by omega) u4 x4_2 (Int.tmod x0_2 16777216) [.int .i64 (Int.tmod x0_2 16777216)] (fun _ => True) (fun _ => False) rfl rfl ?aP (fun _ hk => hk.elim) ?aF ?aO ?aB ?aS ?aL ?_; (case aP => exact rfl); (case aB => exact (by repeat (first | (with_reducible first | exact HB.out | apply ba_ | apply pN_ | apply bd_ | refine bs_ ?_ GE159.out) | exact HB.out))); (case aF => exact (fun _ _ => trivial)); (case aO => exact (by (with_reducible repeat (first | apply Kd.R_alloc | apply Kd.R_drewN | apply Kd.R_drew)); exact HO_4.out)); (case aS => exact (bz_ (by repeat (first | (with_reducible first | exact HB.out | apply ba_ | apply pN_ | apply bd_ | refine bs_ ?_ GE159.out) | exact HB.out)))); (case aL => have := LMc16.out; omega); intro v171 w17 ho hb hg hat; rw [← Ny170.out] at ho; have n0_ := As_.mk (blk_grown (g := gb159) (o := .cells #[.int .i64 0, .slice none 0 0] 54 (0, 0)) (by (with_reducible repeat (first | refine kN_ ?_ _ | refine kd_ ?_ | refine ka_ ?_ _)); exact BK159.out) hg (Kd.R_ne HO_4.out BK159.out (by decide))); have n1_ := As_.mk (hb); have n2_ := As_.mk (ho); clear BK159; clear HB; clear HO_4; have BK159 := n0_; have HB := n1_; have HO172 := n2_; clear n0_ n1_ n2_; clear ho hb hg hat))
        go_roundg k2
        case measure => have := HJ1.out; have := HK2.out; omega
        case rel => exact ⟨(wrap64 (Int.tdiv x0_2 16777216)), (y170), (by first | rfl | (simp; done) | (simp [*]; done)), H', ⟨by have := HJ1.out; have := HK2.out; omega⟩, ⟨by (with_reducible repeat (first | apply Kd.R_alloc | apply Kd.R_drewN | apply Kd.R_drew)); exact HO172.out⟩, ⟨by (with_reducible repeat (first | refine kN_ ?_ _ | refine kd_ ?_ | refine ka_ ?_ _)); exact BK159.out⟩, ⟨by repeat (first | (with_reducible first | exact HB.out | apply ba_ | apply pN_ | apply bd_ | refine bs_ ?_ GE159.out) | exact HB.out)⟩⟩
       ·rw [if_neg c16] at H
        exact absurd H (by simp)
def spec_l02Length.l0 : Nat → Int → Int → Option (Int)
 | 0, _, _ => none
 | k + 1, x4, x5 => if x5 > 0 then (spec_l02Length.l0 k (wrap64 (x4 + 1)) (wrap64 (Int.tdiv x5 2))) else (some x4)
def spec_l02Length.f (k : Nat) (a0_0 : Int) (l0_1 : List Int) : Option (Int) := if (l0_1.length : Int) = 0 then (some 0) else (if 0 ≤ (wrap64 ((l0_1.length : Int) - 1)) then (if (wrap64 ((l0_1.length : Int) - 1)) < (l0_1.length : Int) then (spec_l02Length.l0 k (wrap64 ((wrap64 ((l0_1.length : Int) - 1)) * 24)) (rd l0_1 (wrap64 ((l0_1.length : Int) - 1)))) else (none)) else (none))
set_option maxHeartbeats 8000000 in
set_option maxRecDepth 100000 in
theorem spec_l02Length.calls (k : Nat) (a0_0 : Int) (A0_1 : Option Addr) (c0_1 : Nat) (l0_1 : List Int) (r : Int) (w : World) (hr0_1 : Kd.C (Kd.int .i64) w A0_1 l0_1.length l0_1) (hc0_1 : l0_1.length ≤ c0_1) (h : spec_l02Length.f k a0_0 l0_1 = some r) :
  Calls Tryz.prog 235 #[.agg #[.int .i64 a0_0, .slice A0_1 l0_1.length c0_1]] w fun e w' => e = .returned (.int .i64 r) ∧ Below w.heap.size w w' := by
 have hu54 := Tryz.underlying54
 have HR0_1 := As_.mk hr0_1
 have HC0_1 := As_.mk hc0_1
 clear hr0_1 hc0_1
 have HB := As_.mk (Below.refl w.heap.size w)
 have H : (if (l0_1.length : Int) = 0 then (some 0) else (if 0 ≤ (wrap64 ((l0_1.length : Int) - 1)) then (if (wrap64 ((l0_1.length : Int) - 1)) < (l0_1.length : Int) then (spec_l02Length.l0 k (wrap64 ((wrap64 ((l0_1.length : Int) - 1)) * 24)) (rd l0_1 (wrap64 ((l0_1.length : Int) - 1)))) else (none)) else (none))) = some r := h
 clear h
 by_cases c2 : (l0_1.length : Int) = 0
 ·rw [if_pos c2] at H
  have c2b0 : ((l0_1.length : Int) == 0) = true := beq_iff_eq.mpr c2
  have c2b1 : ((l0_1.length : Int) != 0) = false := bne_eq_false_iff_eq.mpr c2
  clear c2
  obtain rfl := Option.some.inj H
  go_enter Tryz.func235, Tryz.ntmps235
  go_wp2_with (first | ((with_reducible refine gate_dst (N := 1) rfl ?_); refine box_event ?hg (N := 1) ?hd (cs := #[.int .i64 a0_0, .slice A0_1 l0_1.length c0_1]) (t := 54) ?hr ?_; (case hd => rfl); (case hg => rfl); (case hr => first | (go_simp; done) | (go_simp; rfl)); intro gb286 hg w3 hbox hb; have n0_ := As_.mk (bp_ (by repeat (first | (with_reducible first | exact HB.out | apply ba_ | apply pN_ | apply bd_) | exact HB.out)) hb); have n1_ := As_.mk (hbox); have n2_ := As_.mk ((by rw [hg]; exact (bz_ (by repeat (first | (with_reducible first | exact HB.out | apply ba_ | apply pN_ | apply bd_) | exact HB.out))) : w.heap.size ≤ gb286)); have n3_ := As_.mk ((by rw [hg]; exact (bz_ (by repeat (first | (with_reducible first | exact HB.out | apply ba_ | apply pN_ | apply bd_) | exact HB.out))) : w.heap.size ≤ gb286)); clear HB; have HB := n0_; have BK286 := n1_; have GW286 := n2_; have GE286 := n3_; clear n0_ n1_ n2_ n3_; clear hb hbox hg; have hcz4_0 : w3.cell? ⟨gb286, 0, none⟩ = some (.int .i64 a0_0) := (kc_ BK286.out 0).trans rfl; have hcz4_1 : w3.cell? ⟨gb286, 1, none⟩ = some (.slice A0_1 l0_1.length c0_1) := (kc_ BK286.out 1).trans rfl; have hfz4_0 := kf_ BK286.out 0; have hfz4_1 := kf_ BK286.out 1))
  go_ret
  exact ⟨by first | rfl | (simp [eN_, eS_] <;> rfl) | (simp [*, eN_, eS_] <;> rfl), by repeat (first | (with_reducible first | exact HB.out | apply ba_ | apply pN_ | apply bd_ | refine bs_ ?_ GE286.out) | exact HB.out)⟩
 ·rw [if_neg c2] at H
  have c2b0 : ((l0_1.length : Int) == 0) = false := beq_eq_false_iff_ne.mpr c2
  have c2b1 : ((l0_1.length : Int) != 0) = true := bne_iff_ne.mpr c2
  have c2b2 : ¬ (l0_1 = []) := fun h_ => c2 (by rw [h_]; rfl)
  obtain ⟨ji5, hji5⟩ : ∃ j_ : Int, (wrap64 ((l0_1.length : Int) - 1)) = j_ := ⟨_, rfl⟩
  replace H : (if 0 ≤ (ji5) then (if (ji5) < (l0_1.length : Int) then (spec_l02Length.l0 k (wrap64 ((ji5) * 24)) (rd l0_1 (ji5))) else (none)) else (none)) = some r := by first | (rw [hji5] at H; exact H) | (simp only [hji5] at H ⊢; exact H)
  have hji5w : (IntKind.i64.wrap ((l0_1.length : Int) - 1)) = ji5 := (i64_w _).trans hji5
  by_cases c6 : 0 ≤ (ji5)
  ·rw [if_pos c6] at H
   have c6b0 : decide (0 ≤ (ji5)) = true := decide_eq_true c6
   clear c6
   by_cases c7 : (ji5) < (l0_1.length : Int)
   ·rw [if_pos c7] at H
    have c7b0 : decide ((ji5) < (l0_1.length : Int)) = true := decide_eq_true c7
    clear c7
    have H' := As_.mk H
    clear H
    go_enter Tryz.func235, Tryz.ntmps235
    go_wp2_with (first | ((with_reducible refine gate_dst (N := 1) rfl ?_); refine box_event ?hg (N := 1) ?hd (cs := #[.int .i64 a0_0, .slice A0_1 l0_1.length c0_1]) (t := 54) ?hr ?_; (case hd => rfl); (case hg => rfl); (case hr => first | (go_simp; done) | (go_simp; rfl)); intro gb286 hg w8 hbox hb; have n0_ := As_.mk (bp_ (by repeat (first | (with_reducible first | exact HB.out | apply ba_ | apply pN_ | apply bd_) | exact HB.out)) hb); have n1_ := As_.mk (hbox); have n2_ := As_.mk ((by rw [hg]; exact (bz_ (by repeat (first | (with_reducible first | exact HB.out | apply ba_ | apply pN_ | apply bd_) | exact HB.out))) : w.heap.size ≤ gb286)); have n3_ := As_.mk ((by rw [hg]; exact (bz_ (by repeat (first | (with_reducible first | exact HB.out | apply ba_ | apply pN_ | apply bd_) | exact HB.out))) : w.heap.size ≤ gb286)); clear HB; have HB := n0_; have BK286 := n1_; have GW286 := n2_; have GE286 := n3_; clear n0_ n1_ n2_ n3_; clear hb hbox hg; have hcz9_0 : w8.cell? ⟨gb286, 0, none⟩ = some (.int .i64 a0_0) := (kc_ BK286.out 0).trans rfl; have hcz9_1 : w8.cell? ⟨gb286, 1, none⟩ = some (.slice A0_1 l0_1.length c0_1) := (kc_ BK286.out 1).trans rfl; have hfz9_0 := kf_ BK286.out 0; have hfz9_1 := kf_ BK286.out 1; have p287 : 0 ≤ ((ji5) : Int) := of_decide_eq_true (by first | (with_reducible assumption) | assumption); have q287 : (ji5) < (l0_1.length : Int) := of_decide_eq_true (by first | (with_reducible assumption) | assumption); obtain ⟨ad287, e287, hx287_0⟩ := Kd.at_int HR0_1.out (ji5) p287 q287; cases e287; replace hx287_0 := (HB.out.cell (World.block_lt_of_cell? w _ hx287_0)).trans hx287_0; replace p287 := eq_true p287; replace q287 := eq_true q287))
    go_loopg [4, 5] k (fun kq v4 v5 w' => ∃ (x4_1 : Int) (x5_1 : Int), v4 = .int .i64 x4_1 ∧ v5 = .int .i64 x5_1 ∧ As_ (spec_l02Length.l0 kq x4_1 x5_1 = some r) ∧ As_ (kq ≤ k) ∧ As_ (w'.heap[gb286]? = some (.cells #[.int .i64 a0_0, (.slice (some ad287) l0_1.length c0_1)] 54 (0, 0))) ∧ As_ (Below w.heap.size w w'))
    case atStart => exact ⟨(wrap64 ((ji5) * 24)), (rd l0_1 (ji5)), (by first | rfl | (simp; done) | (simp only [← hji5] <;> (first | rfl | simp)) | (simp [*]; done)), (by first | rfl | (simp; done) | (simp only [← hji5] <;> (first | rfl | simp)) | (simp [*]; done)), H', ⟨Nat.le_refl _⟩, ⟨by (with_reducible repeat (first | refine kN_ ?_ _ | refine kd_ ?_ | refine ka_ ?_ _)); exact BK286.out⟩, ⟨by repeat (first | (with_reducible first | exact HB.out | apply ba_ | apply pN_ | apply bd_ | refine bs_ ?_ GE286.out) | exact HB.out)⟩⟩
    case round =>
     clear H'
     try clear c2
     try clear c2b0
     try clear c2b1
     try clear c2b2
     try clear p2
     try clear q2
     try clear hx2
     try clear c6
     try clear c6b0
     try clear p6
     try clear c7
     try clear c7b0
     try clear hcz4_0
     try clear hcz4_1
     try clear hcz9_0
     try clear hcz9_1
     try clear hfz4_0
     try clear hfz4_1
     try clear hfz9_0
     try clear hfz9_1
     try clear hx287_0
     try clear p287
     try clear q287
     obtain ⟨x4_1, x5_1, rfl, rfl, HA, HK1, BK286, HB⟩ := hrel
     cases gk with
     | zero => exact absurd HA.out (by simp [spec_l02Length.l0])
     | succ k1 =>
      have H := HA.out
      clear HA
      simp only [spec_l02Length.l0] at H
      by_cases c10 : x5_1 > 0
      ·rw [if_pos c10] at H
       have c10b0 : decide (0 < x5_1) = true := decide_eq_true c10
       clear c10
       have H' := As_.mk H
       clear H
       go_wp2
       go_roundg k1
       case measure => have := HK1.out; omega
       case rel => exact ⟨(wrap64 (x4_1 + 1)), (wrap64 (Int.tdiv x5_1 2)), (by first | rfl | (simp; done) | (simp [*]; done)), (by first | rfl | (simp; done) | (simp [*]; done)), H', ⟨by have := HK1.out; omega⟩, ⟨by (with_reducible repeat (first | refine kN_ ?_ _ | refine kd_ ?_ | refine ka_ ?_ _)); exact BK286.out⟩, ⟨by repeat (first | (with_reducible first | exact HB.out | apply ba_ | apply pN_ | apply bd_ | refine bs_ ?_ GE286.out) | exact HB.out)⟩⟩
      ·rw [if_neg c10] at H
       have c10b0 : decide (0 < x5_1) = false := decide_eq_false c10
       clear c10
       obtain rfl := Option.some.inj H
       go_wp2
       go_ret
       exact ⟨by first | rfl | (simp [eN_, eS_] <;> rfl) | (simp only [← hji5]; first | rfl | (simp [eN_, eS_] <;> rfl)) | (simp [*, eN_, eS_] <;> rfl), by repeat (first | (with_reducible first | exact HB.out | apply ba_ | apply pN_ | apply bd_ | refine bs_ ?_ GE286.out) | exact HB.out)⟩
   ·rw [if_neg c7] at H
    exact absurd H (by simp)
  ·rw [if_neg c6] at H
   exact absurd H (by simp)
def spec_l02Bit.f (a0_0 : Int) (l0_1 : List Int) (a1 : Int) : Option (Int) := if (wrap64 (Int.tdiv a1 24)) ≥ (l0_1.length : Int) then (some 0) else (if 0 ≤ (wrap64 (Int.tdiv a1 24)) then (if (wrap64 (Int.tdiv a1 24)) < (l0_1.length : Int) then (if 0 ≤ (IntKind.u64.wrap (Int.tmod a1 24)) then (some (Go.bits .and .i64 (shr .i64 (rd l0_1 (wrap64 (Int.tdiv a1 24))) (IntKind.u64.wrap (Int.tmod a1 24))) 1)) else (none)) else (none)) else (none))
set_option maxHeartbeats 8000000 in
set_option maxRecDepth 100000 in
theorem spec_l02Bit.calls (a0_0 : Int) (A0_1 : Option Addr) (c0_1 : Nat) (l0_1 : List Int) (a1 : Int) (r : Int) (w : World) (hr0_1 : Kd.C (Kd.int .i64) w A0_1 l0_1.length l0_1) (hc0_1 : l0_1.length ≤ c0_1) (h : spec_l02Bit.f a0_0 l0_1 a1 = some r) :
  Calls Tryz.prog 217 #[.agg #[.int .i64 a0_0, .slice A0_1 l0_1.length c0_1], .int .i64 a1] w fun e w' => e = .returned (.int .i64 r) ∧ Below w.heap.size w w' := by
 have hu54 := Tryz.underlying54
 have HR0_1 := As_.mk hr0_1
 have HC0_1 := As_.mk hc0_1
 clear hr0_1 hc0_1
 have HB := As_.mk (Below.refl w.heap.size w)
 have H : (if (wrap64 (Int.tdiv a1 24)) ≥ (l0_1.length : Int) then (some 0) else (if 0 ≤ (wrap64 (Int.tdiv a1 24)) then (if (wrap64 (Int.tdiv a1 24)) < (l0_1.length : Int) then (if 0 ≤ (IntKind.u64.wrap (Int.tmod a1 24)) then (some (Go.bits .and .i64 (shr .i64 (rd l0_1 (wrap64 (Int.tdiv a1 24))) (IntKind.u64.wrap (Int.tmod a1 24))) 1)) else (none)) else (none)) else (none))) = some r := h
 clear h
 by_cases c3 : (wrap64 (Int.tdiv a1 24)) ≥ (l0_1.length : Int)
 ·rw [if_pos c3] at H
  have c3b0 : decide ((l0_1.length : Int) ≤ (wrap64 (Int.tdiv a1 24))) = true := decide_eq_true c3
  clear c3
  obtain rfl := Option.some.inj H
  go_enter Tryz.func217, Tryz.ntmps217
  go_wp2_with (first | ((with_reducible refine gate_dst (N := 2) rfl ?_); refine box_event ?hg (N := 2) ?hd (cs := #[.int .i64 a0_0, .slice A0_1 l0_1.length c0_1]) (t := 54) ?hr ?_; (case hd => rfl); (case hg => rfl); (case hr => first | (go_simp; done) | (go_simp; rfl)); intro gb284 hg w4 hbox hb; have n0_ := As_.mk (bp_ (by repeat (first | (with_reducible first | exact HB.out | apply ba_ | apply pN_ | apply bd_) | exact HB.out)) hb); have n1_ := As_.mk (hbox); have n2_ := As_.mk ((by rw [hg]; exact (bz_ (by repeat (first | (with_reducible first | exact HB.out | apply ba_ | apply pN_ | apply bd_) | exact HB.out))) : w.heap.size ≤ gb284)); have n3_ := As_.mk ((by rw [hg]; exact (bz_ (by repeat (first | (with_reducible first | exact HB.out | apply ba_ | apply pN_ | apply bd_) | exact HB.out))) : w.heap.size ≤ gb284)); clear HB; have HB := n0_; have BK284 := n1_; have GW284 := n2_; have GE284 := n3_; clear n0_ n1_ n2_ n3_; clear hb hbox hg; have hcz5_0 : w4.cell? ⟨gb284, 0, none⟩ = some (.int .i64 a0_0) := (kc_ BK284.out 0).trans rfl; have hcz5_1 : w4.cell? ⟨gb284, 1, none⟩ = some (.slice A0_1 l0_1.length c0_1) := (kc_ BK284.out 1).trans rfl; have hfz5_0 := kf_ BK284.out 0; have hfz5_1 := kf_ BK284.out 1))
  go_ret
  exact ⟨by first | rfl | (simp [eN_, eS_] <;> rfl) | (simp [*, eN_, eS_] <;> rfl), by repeat (first | (with_reducible first | exact HB.out | apply ba_ | apply pN_ | apply bd_ | refine bs_ ?_ GE284.out) | exact HB.out)⟩
 ·rw [if_neg c3] at H
  have c3b0 : decide ((l0_1.length : Int) ≤ (wrap64 (Int.tdiv a1 24))) = false := decide_eq_false c3
  clear c3
  obtain ⟨ji6, hji6⟩ : ∃ j_ : Int, (wrap64 (Int.tdiv a1 24)) = j_ := ⟨_, rfl⟩
  replace H : (if 0 ≤ (ji6) then (if (ji6) < (l0_1.length : Int) then (if 0 ≤ (IntKind.u64.wrap (Int.tmod a1 24)) then (some (Go.bits .and .i64 (shr .i64 (rd l0_1 (ji6)) (IntKind.u64.wrap (Int.tmod a1 24))) 1)) else (none)) else (none)) else (none)) = some r := by first | (rw [hji6] at H; exact H) | (simp only [hji6] at H ⊢; exact H)
  (try rw [hji6] at c3b0)
  have hji6w : (IntKind.i64.wrap (Int.tdiv a1 24)) = ji6 := (i64_w _).trans hji6
  by_cases c7 : 0 ≤ (ji6)
  ·rw [if_pos c7] at H
   have c7b0 : decide (0 ≤ (ji6)) = true := decide_eq_true c7
   clear c7
   by_cases c8 : (ji6) < (l0_1.length : Int)
   ·rw [if_pos c8] at H
    have c8b0 : decide ((ji6) < (l0_1.length : Int)) = true := decide_eq_true c8
    clear c8
    obtain ⟨ji9, hji9⟩ : ∃ j_ : Int, (IntKind.u64.wrap (Int.tmod a1 24)) = j_ := ⟨_, rfl⟩
    replace H : (if 0 ≤ (ji9) then (some (Go.bits .and .i64 (shr .i64 (rd l0_1 (ji6)) (ji9)) 1)) else (none)) = some r := by first | (rw [hji9] at H; exact H) | (simp only [hji9] at H ⊢; exact H)
    by_cases c10 : 0 ≤ (ji9)
    ·rw [if_pos c10] at H
     have c10b0 := eq_true c10
     have c10b1 : decide (0 ≤ (ji9)) = true := decide_eq_true c10
     clear c10
     obtain ⟨ji11, hji11⟩ : ∃ j_ : Int, (shr .i64 (rd l0_1 (ji6)) (ji9)) = j_ := ⟨_, rfl⟩
     replace H : (some (Go.bits .and .i64 (ji11) 1)) = some r := by first | (rw [hji11] at H; exact H) | (simp only [hji11] at H ⊢; exact H)
     have hji11_ : ((rd l0_1 (ji6)) / 2 ^ min (ji9).toNat 64) = ji11 := hji11
     have hji11z : (ji9) ≤ 64 → ((rd l0_1 (ji6)) / 2 ^ (ji9).toNat) = ji11 := shr_small hji11
     obtain rfl := Option.some.inj H
     go_enter Tryz.func217, Tryz.ntmps217
     go_wp2_with (first | ((with_reducible refine gate_dst (N := 2) rfl ?_); refine box_event ?hg (N := 2) ?hd (cs := #[.int .i64 a0_0, .slice A0_1 l0_1.length c0_1]) (t := 54) ?hr ?_; (case hd => rfl); (case hg => rfl); (case hr => first | (go_simp; done) | (go_simp; rfl)); intro gb284 hg w12 hbox hb; have n0_ := As_.mk (bp_ (by repeat (first | (with_reducible first | exact HB.out | apply ba_ | apply pN_ | apply bd_) | exact HB.out)) hb); have n1_ := As_.mk (hbox); have n2_ := As_.mk ((by rw [hg]; exact (bz_ (by repeat (first | (with_reducible first | exact HB.out | apply ba_ | apply pN_ | apply bd_) | exact HB.out))) : w.heap.size ≤ gb284)); have n3_ := As_.mk ((by rw [hg]; exact (bz_ (by repeat (first | (with_reducible first | exact HB.out | apply ba_ | apply pN_ | apply bd_) | exact HB.out))) : w.heap.size ≤ gb284)); clear HB; have HB := n0_; have BK284 := n1_; have GW284 := n2_; have GE284 := n3_; clear n0_ n1_ n2_ n3_; clear hb hbox hg; have hcz13_0 : w12.cell? ⟨gb284, 0, none⟩ = some (.int .i64 a0_0) := (kc_ BK284.out 0).trans rfl; have hcz13_1 : w12.cell? ⟨gb284, 1, none⟩ = some (.slice A0_1 l0_1.length c0_1) := (kc_ BK284.out 1).trans rfl; have hfz13_0 := kf_ BK284.out 0; have hfz13_1 := kf_ BK284.out 1; have p285 : 0 ≤ ((ji6) : Int) := of_decide_eq_true (by first | (with_reducible assumption) | assumption); have q285 : (ji6) < (l0_1.length : Int) := of_decide_eq_true (by first | (with_reducible assumption) | assumption); obtain ⟨ad285, e285, hx285_0⟩ := Kd.at_int HR0_1.out (ji6) p285 q285; cases e285; replace hx285_0 := (HB.out.cell (World.block_lt_of_cell? w _ hx285_0)).trans hx285_0; replace p285 := eq_true p285; replace q285 := eq_true q285))
     go_ret
     exact ⟨by first | rfl | (simp [eN_, eS_] <;> rfl) | (simp only [← hji6, ← hji9, ← hji11]; first | rfl | (simp [eN_, eS_] <;> rfl)) | (simp [*, eN_, eS_] <;> rfl), by repeat (first | (with_reducible first | exact HB.out | apply ba_ | apply pN_ | apply bd_ | refine bs_ ?_ GE284.out) | exact HB.out)⟩
    ·rw [if_neg c10] at H
     exact absurd H (by simp)
   ·rw [if_neg c8] at H
    exact absurd H (by simp)
  ·rw [if_neg c7] at H
   exact absurd H (by simp)
end Go.Proofs.YtlogcnglmdpejaaGreatDoor.Pq
end
