/- Part 20 of the proof of the card of FnExactV: walks of the functions and plain facts on them. -/
import Derived.Test.YtlogcnglmdpejaaGreatDoorMV3
import Derived.Test.YtlogcnglmdpejaaGreatDoorMV11
section
namespace Go.Proofs.YtlogcnglmdpejaaGreatDoor.Pq
open Go.RowKit Go.Proofs.YtlogcnglmdpejaaGreatDoorW.PrintWords Go.Proofs.YtlogcnglmdpejaaGreatDoorW.PrintLast Go.Proofs.YtlogcnglmdpejaaGreatDoorW.PrintMore
attribute [local go_sem] max2_int min2_int max_two min_two max_three min_three max_four min_four
set_option linter.unusedVariables false
set_option linter.unusedSimpArgs false
def spec_l02Left.l0 : Nat → Int → List Int → Int → Int → Int → List Int → Option (Int × List Int)
 | 0, _, _, _, _, _, _ => none
 | k + 1, x1, x5, x6, x7, x269000, x269001 => if x7 < (x269001.length : Int) then (if 0 ≤ x7 then (if 0 ≤ (IntKind.u64.wrap (Int.tmod x1 24)) then (if x5.length < 17592186044416 then (spec_l02Left.l0 k x1 (x5 ++ [Int.tmod (wrap64 (x6 + (shl .i64 (rd x269001 x7) (IntKind.u64.wrap (Int.tmod x1 24))))) 16777216]) (wrap64 (Int.tdiv (wrap64 (x6 + (shl .i64 (rd x269001 x7) (IntKind.u64.wrap (Int.tmod x1 24))))) 16777216)) (wrap64 (x7 + 1)) x269000 x269001) else (none)) else (none)) else (none)) else (if x5.length < 17592186044416 then ((spec_l02Make.f k x269000 (x5 ++ [x6])).bind fun bt280 => (some (bt280.1, bt280.2))) else (none))
def spec_l02Left.f (k : Nat) (a0_0 : Int) (l0_1 : List Int) (a1 : Int) : Option (Int × List Int) := if 0 ≤ (wrap64 (Int.tdiv a1 24)) then (if (wrap64 (Int.tdiv a1 24) : Int).toNat ≤ 35184372088832 then (spec_l02Left.l0 k a1 (List.replicate (wrap64 (Int.tdiv a1 24) : Int).toNat 0) 0 0 a0_0 l0_1) else (none)) else (none)
def spec_l02Left.T9 : Bool × List (List Nat × List Nat) := (true, [([], []), ([0], [0]), ([], []), ([], []), ([3], [3]), ([2, 4], [2, 4]), ([1, 5, 5], [1, 5]), ([6, 6, 0, 1, 2, 3, 4, 5, 6], [6])])
def spec_l02Left.B9 : List Nat := [0, 1, 0, 0, 8, 28, 63, 127]
theorem spec_l02Left.tab9 : rtab .any (opsOf Tryz.f216 9) = spec_l02Left.T9 := by kernel_rfl
theorem spec_l02Left.bits9 : waitsOk spec_l02Left.T9.2 spec_l02Left.B9 = true := by kernel_rfl
set_option maxHeartbeats 8000000 in
set_option maxRecDepth 100000 in
theorem spec_l02Left.calls (k : Nat) (a0_0 : Int) (A0_1 : Option Addr) (c0_1 : Nat) (l0_1 : List Int) (a1 : Int) (r1 : Int) (r2 : List Int) (w : World) (hr0_1 : Kd.C (Kd.int .i64) w A0_1 l0_1.length l0_1) (hc0_1 : l0_1.length ≤ c0_1) (h : spec_l02Left.f k a0_0 l0_1 a1 = some (r1, r2)) :
  Calls Tryz.prog 216 #[.agg #[.int .i64 a0_0, .slice A0_1 l0_1.length c0_1], .int .i64 a1] w fun e w' => ∃ v1_ : Value, e = .returned (.agg #[.int .i64 r1, v1_]) ∧ Kd.R (Kd.int .i64) 2 w' w.heap.size (fun _ => True) v1_ r2 ∧ Below w.heap.size w w' := by
 have hu54 := Tryz.underlying54
 have HR0_1 := As_.mk hr0_1
 have HC0_1 := As_.mk hc0_1
 clear hr0_1 hc0_1
 have HB := As_.mk (Below.refl w.heap.size w)
 have H : (if 0 ≤ (wrap64 (Int.tdiv a1 24)) then (if (wrap64 (Int.tdiv a1 24) : Int).toNat ≤ 35184372088832 then (spec_l02Left.l0 k a1 (List.replicate (wrap64 (Int.tdiv a1 24) : Int).toNat 0) 0 0 a0_0 l0_1) else (none)) else (none)) = some (r1, r2) := h
 clear h
 obtain ⟨ji3, hji3⟩ : ∃ j_ : Int, (wrap64 (Int.tdiv a1 24)) = j_ := ⟨_, rfl⟩
 replace H : (if 0 ≤ (ji3) then (if (ji3 : Int).toNat ≤ 35184372088832 then (spec_l02Left.l0 k a1 (List.replicate (ji3 : Int).toNat 0) 0 0 a0_0 l0_1) else (none)) else (none)) = some (r1, r2) := by first | (rw [hji3] at H; exact H) | (simp only [hji3] at H ⊢; exact H)
 have hji3w : (IntKind.i64.wrap (Int.tdiv a1 24)) = ji3 := (i64_w _).trans hji3
 by_cases c4 : 0 ≤ (ji3)
 ·rw [if_pos c4] at H
  have c4b0 := eq_true c4
  have c4b1 : decide (0 ≤ (ji3)) = true := decide_eq_true c4
  clear c4
  by_cases c5 : (ji3 : Int).toNat ≤ 35184372088832
  ·rw [if_pos c5] at H
   have c5b0 := eq_true c5
   have c5b1 : decide ((ji3 : Int).toNat ≤ 35184372088832) = true := decide_eq_true c5
   clear c5
   obtain ⟨y270, hy270⟩ : ∃ y_ : List Int, y_ = (List.replicate (ji3 : Int).toNat 0) := ⟨_, rfl⟩
   replace H : (spec_l02Left.l0 k a1 y270 0 0 a0_0 l0_1) = some (r1, r2) := by first | (rw [hy270]; with_reducible exact H) | (have H2_ := (Option.bind_some _ _).symm.trans H; rw [hy270]; with_reducible exact H2_) | (have H2_ := (Option.bind_some _ _).symm.trans H; with_reducible exact H2_) | with_reducible exact H | (rw [hy270]; exact H) | exact H
   have Ny270 := As_.mk hy270
   clear hy270
   have H' := As_.mk H
   clear H
   go_enter Tryz.func216, Tryz.ntmps216
   go_wp2_with (first | ((with_reducible refine gate_dst (N := 2) rfl ?_); refine box_event ?hg (N := 2) ?hd (cs := #[.int .i64 a0_0, .slice A0_1 l0_1.length c0_1]) (t := 54) ?hr ?_; (case hd => rfl); (case hg => rfl); (case hr => first | (go_simp; done) | (go_simp; rfl)); intro gb268 hg w6 hbox hb; have n0_ := As_.mk (bp_ (by repeat (first | (with_reducible first | exact HB.out | apply ba_ | apply pN_ | apply bd_) | exact HB.out)) hb); have n1_ := As_.mk (hbox); have n2_ := As_.mk ((by rw [hg]; exact (bz_ (by repeat (first | (with_reducible first | exact HB.out | apply ba_ | apply pN_ | apply bd_) | exact HB.out))) : w.heap.size ≤ gb268)); have n3_ := As_.mk ((by rw [hg]; exact (bz_ (by repeat (first | (with_reducible first | exact HB.out | apply ba_ | apply pN_ | apply bd_) | exact HB.out))) : w.heap.size ≤ gb268)); clear HB; have HB := n0_; have BK268 := n1_; have GW268 := n2_; have GE268 := n3_; clear n0_ n1_ n2_ n3_; clear hb hbox hg) | ((with_reducible refine gate_dst (N := 4) rfl ?_); refine box_event ?hg (N := 4) ?hd (cs := #[.int .i64 0, .slice none 0 0]) (t := 54) ?hr ?_; (case hd => rfl); (case hg => rfl); (case hr => first | (go_simp; done) | (go_simp; rfl)); intro gb269 hg w7 hbox hb; have n0_ := As_.mk (kb_ (g := gb268) (o := .cells #[.int .i64 a0_0, .slice A0_1 l0_1.length c0_1] 54 (0, 0)) (by (with_reducible repeat (first | refine kN_ ?_ _ | refine kd_ ?_ | refine ka_ ?_ _)); exact BK268.out) hb); have n1_ := As_.mk (bp_ (by repeat (first | (with_reducible first | exact HB.out | apply ba_ | apply pN_ | apply bd_ | refine bs_ ?_ GE268.out) | exact HB.out)) hb); have n2_ := As_.mk (hbox); have n3_ := As_.mk ((by rw [hg]; exact (bz_ (by repeat (first | (with_reducible first | exact HB.out | apply ba_ | apply pN_ | apply bd_ | refine bs_ ?_ GE268.out) | exact HB.out))) : w.heap.size ≤ gb269)); have n4_ := As_.mk ((by rw [hg]; exact (bz_ (by repeat (first | (with_reducible first | exact HB.out | apply ba_ | apply pN_ | apply bd_ | refine bs_ ?_ GE268.out) | exact HB.out))) : w.heap.size ≤ gb269)); have n5_ := As_.mk ((by rw [hg]; exact Nat.ne_of_lt (blk_lt (g := gb268) (o := .cells #[.int .i64 a0_0, .slice A0_1 l0_1.length c0_1] 54 (0, 0)) (by (with_reducible repeat (first | refine kN_ ?_ _ | refine kd_ ?_ | refine ka_ ?_ _)); exact BK268.out)) : gb268 ≠ gb269)); have n6_ := As_.mk ((by rw [hg]; exact Nat.ne_of_gt (blk_lt (g := gb268) (o := .cells #[.int .i64 a0_0, .slice A0_1 l0_1.length c0_1] 54 (0, 0)) (by (with_reducible repeat (first | refine kN_ ?_ _ | refine kd_ ?_ | refine ka_ ?_ _)); exact BK268.out)) : gb269 ≠ gb268)); clear BK268; clear HB; have BK268 := n0_; have HB := n1_; have BK269 := n2_; have GW269 := n3_; have GE269 := n4_; have NB268_269 := n5_; have NB269_268 := n6_; clear n0_ n1_ n2_ n3_ n4_ n5_ n6_; clear hb hbox hg) | ((with_reducible refine gate_dst (N := 10) rfl ?_); refine Kd.R_make (Kd.int .i64) _ 2 rfl (N := 10) rfl 52 _ _ rfl ji3 rfl rfl Tryz.underlying52 (.int .i64 0) 8 info2 rfl (by decide) (by omega) 0 (ok := fun _ => True) (okp := fun _ => True) rfl (fun _ hk => hk) trivial (of_decide_eq_true (by first | (with_reducible assumption) | assumption)) (Nat.le_trans (Nat.mul_le_mul_right _ (of_decide_eq_true (by first | (with_reducible assumption) | assumption) : ji3.toNat ≤ 35184372088832)) (by omega)) (Below.refl _ _) (Nat.le_refl _) ?_; intro v271 w8 ho9 hb hg_ hnew_; clear hg_ hnew_; (first | rw [← Ny270.out] at ho9 | (simp only [Int.reduceToNat] at ho9; rw [← Ny270.out] at ho9)); have n0_ := As_.mk (Kd.R_lower ho9 (bz_ (by repeat (first | (with_reducible first | exact HB.out | apply ba_ | apply pN_ | apply bd_ | refine bs_ ?_ GE268.out | refine bs_ ?_ GE269.out) | exact HB.out)))); have n1_ := As_.mk (kb_ (g := gb268) (o := .cells #[.int .i64 a0_0, .slice A0_1 l0_1.length c0_1] 54 (0, 0)) (by (with_reducible repeat (first | refine kN_ ?_ _ | refine kd_ ?_ | refine ka_ ?_ _)); exact BK268.out) hb); have n2_ := As_.mk (kb_ (g := gb269) (o := .cells #[.int .i64 0, .slice none 0 0] 54 (0, 0)) (by (with_reducible repeat (first | refine kN_ ?_ _ | refine kd_ ?_ | refine ka_ ?_ _)); exact BK269.out) hb); have n3_ := As_.mk (bp_ (by repeat (first | (with_reducible first | exact HB.out | apply ba_ | apply pN_ | apply bd_ | refine bs_ ?_ GE268.out | refine bs_ ?_ GE269.out) | exact HB.out)) hb); clear BK268; clear BK269; clear HB; have HO272 := n0_; have BK268 := n1_; have BK269 := n2_; have HB := n3_; clear n0_ n1_ n2_ n3_; clear hb ho9))
   go_loopg [5, 6, 7] k (fun kq v5 v6 v7 w' => ∃ (x5_1 : List Int) (x6_1 : Int) (x7_1 : Int), v6 = .int .i64 x6_1 ∧ v7 = .int .i64 x7_1 ∧ As_ (spec_l02Left.l0 kq a1 x5_1 x6_1 x7_1 a0_0 l0_1 = some (r1, r2)) ∧ As_ (kq ≤ k) ∧ As_ (Kd.R (Kd.int .i64) 2 w' w.heap.size (fun _ => True) v5 x5_1) ∧ As_ (w'.heap[gb268]? = some (.cells #[.int .i64 a0_0, (.slice A0_1 l0_1.length c0_1)] 54 (0, 0))) ∧ As_ (w'.heap[gb269]? = some (.cells #[.int .i64 0, (.slice none 0 0)] 54 (0, 0))) ∧ As_ (Below w.heap.size w w'))
   case atStart => exact ⟨(y270), (0), (0), (by first | rfl | (simp; done) | (simp [*]; done)), (by first | rfl | (simp; done) | (simp [*]; done)), H', ⟨Nat.le_refl _⟩, ⟨by (with_reducible repeat (first | apply Kd.R_alloc | apply Kd.R_drewN | apply Kd.R_drew)); exact HO272.out⟩, ⟨by (with_reducible repeat (first | refine kN_ ?_ _ | refine kd_ ?_ | refine ka_ ?_ _)); exact BK268.out⟩, ⟨by (with_reducible repeat (first | refine kN_ ?_ _ | refine kd_ ?_ | refine ka_ ?_ _)); exact BK269.out⟩, ⟨by repeat (first | (with_reducible first | exact HB.out | apply ba_ | apply pN_ | apply bd_ | refine bs_ ?_ GE268.out | refine bs_ ?_ GE269.out) | exact HB.out)⟩⟩
   case round =>
    clear H'
    try clear c2
    try clear p2
    try clear c4
    try clear c4b0
    try clear c4b1
    try clear c5
    try clear c5b0
    try clear c5b1
    try clear p6
    obtain ⟨x5_1, x6_1, x7_1, rfl, rfl, HA, HK1, HO_5, BK268, BK269, HB⟩ := hrel
    cases gk with
    | zero => exact absurd HA.out (by simp [spec_l02Left.l0])
    | succ k1 =>
     have H := HA.out
     clear HA
     simp only [spec_l02Left.l0] at H
     by_cases c10 : x7_1 < (l0_1.length : Int)
     ·rw [if_pos c10] at H
      have c10b0 : decide (x7_1 < (l0_1.length : Int)) = true := decide_eq_true c10
      clear c10
      by_cases c11 : 0 ≤ x7_1
      ·rw [if_pos c11] at H
       have c11b0 : decide (0 ≤ x7_1) = true := decide_eq_true c11
       clear c11
       obtain ⟨ji12, hji12⟩ : ∃ j_ : Int, (IntKind.u64.wrap (Int.tmod a1 24)) = j_ := ⟨_, rfl⟩
       replace H : (if 0 ≤ (ji12) then (if x5_1.length < 17592186044416 then (spec_l02Left.l0 k1 a1 (x5_1 ++ [Int.tmod (wrap64 (x6_1 + (shl .i64 (rd l0_1 x7_1) (ji12)))) 16777216]) (wrap64 (Int.tdiv (wrap64 (x6_1 + (shl .i64 (rd l0_1 x7_1) (ji12)))) 16777216)) (wrap64 (x7_1 + 1)) a0_0 l0_1) else (none)) else (none)) = some (r1, r2) := by first | (rw [hji12] at H; exact H) | (simp only [hji12] at H ⊢; exact H)
       by_cases c13 : 0 ≤ (ji12)
       ·rw [if_pos c13] at H
        have c13b0 := eq_true c13
        have c13b1 : decide (0 ≤ (ji12)) = true := decide_eq_true c13
        clear c13
        obtain ⟨ji14, hji14⟩ : ∃ j_ : Int, (shl .i64 (rd l0_1 x7_1) (ji12)) = j_ := ⟨_, rfl⟩
        replace H : (if x5_1.length < 17592186044416 then (spec_l02Left.l0 k1 a1 (x5_1 ++ [Int.tmod (wrap64 (x6_1 + (ji14))) 16777216]) (wrap64 (Int.tdiv (wrap64 (x6_1 + (ji14))) 16777216)) (wrap64 (x7_1 + 1)) a0_0 l0_1) else (none)) = some (r1, r2) := by first | (rw [hji14] at H; exact H) | (simp only [hji14] at H ⊢; exact H)
        have hji14_ : (IntKind.i64.wrap ((rd l0_1 x7_1) * 2 ^ min (ji12).toNat 64)) = ji14 := hji14
        have hji14z : (ji12) ≤ 64 → (IntKind.i64.wrap ((rd l0_1 x7_1) * 2 ^ (ji12).toNat)) = ji14 := shl_small hji14
        have hji14y : (wrap64 ((rd l0_1 x7_1) * 2 ^ min (ji12).toNat 64)) = ji14 := (i64_w _).symm.trans hji14_
        have hji14x : (ji12) ≤ 64 → (wrap64 ((rd l0_1 x7_1) * 2 ^ (ji12).toNat)) = ji14 := fun h_ => (i64_w _).symm.trans (hji14z h_)
        by_cases c15 : x5_1.length < 17592186044416
        ·rw [if_pos c15] at H
         have LMc15 := As_.mk c15
         clear c15
         obtain ⟨y274, hy274⟩ : ∃ y_ : List Int, y_ = (x5_1 ++ [Int.tmod (wrap64 (x6_1 + (ji14))) 16777216]) := ⟨_, rfl⟩
         replace H : (spec_l02Left.l0 k1 a1 y274 (wrap64 (Int.tdiv (wrap64 (x6_1 + (ji14))) 16777216)) (wrap64 (x7_1 + 1)) a0_0 l0_1) = some (r1, r2) := by first | (rw [hy274]; with_reducible exact H) | (have H2_ := (Option.bind_some _ _).symm.trans H; rw [hy274]; with_reducible exact H2_) | (have H2_ := (Option.bind_some _ _).symm.trans H; with_reducible exact H2_) | with_reducible exact H | (rw [hy274]; exact H) | exact H
         have Ny274 := As_.mk hy274
         clear hy274
         have H' := As_.mk H
         clear H
         have hnb16 := NB268_269.out
         have hnc16 := NB269_268.out
         have hcz17_0 : wr.cell? ⟨gb268, 0, none⟩ = some (.int .i64 a0_0) := (kc_ BK268.out 0).trans rfl
         have hcz17_1 : wr.cell? ⟨gb268, 1, none⟩ = some (.slice A0_1 l0_1.length c0_1) := (kc_ BK268.out 1).trans rfl
         have hfz17_0 := kf_ BK268.out 0
         have hfz17_1 := kf_ BK268.out 1
         have p273 : 0 ≤ (x7_1 : Int) := of_decide_eq_true (by first | (with_reducible assumption) | assumption)
         have q273 : x7_1 < (l0_1.length : Int) := of_decide_eq_true (by first | (with_reducible assumption) | assumption)
         obtain ⟨ad273, e273, hx273_0⟩ := Kd.at_int HR0_1.out x7_1 p273 q273
         cases e273
         replace hx273_0 := (HB.out.cell (World.block_lt_of_cell? w _ hx273_0)).trans hx273_0
         replace p273 := eq_true p273
         replace q273 := eq_true q273
         go_wp2_with (first | ((with_reducible refine gate_builtin (b := .append) (xs := #[.tmp 29, .tmp 32]) rfl ?_); at_builtin; refine Kd.R_append (Kd.int .i64) (w0 := w) w.heap.size rfl (.tmp 29) (.tmp 32) 52 2 (.int .i64 0) 8 rfl Tryz.underlying52 info2 rfl (by decide) (by omega) u5 x5_1 (Int.tmod (wrap64 (x6_1 + (ji14))) 16777216) [.int .i64 (Int.tmod (wrap64 (x6_1 + (ji14))) 16777216)] (fun _ => True) (fun _ => False) rfl rfl ?aP (fun _ hk => hk.elim) ?aF ?aO ?aB ?aS ?aL ?_; (case aP => exact rfl); (case aB => exact (by repeat (first | (with_reducible first | exact HB.out | apply ba_ | apply pN_ | apply bd_ | refine bs_ ?_ GE268.out | refine bs_ ?_ GE269.out) | exact HB.out))); (case aF => exact (fun _ _ => trivial)); (case aO => exact (by (with_reducible repeat (first | apply Kd.R_alloc | apply Kd.R_drewN | apply Kd.R_drew)); exact HO_5.out)); (case aS => exact (bz_ (by repeat (first | (with_reducible first | exact HB.out | apply ba_ | apply pN_ | apply bd_ | refine bs_ ?_ GE268.out | refine bs_ ?_ GE269.out) | exact HB.out)))); (case aL => have := LMc15.out; omega); intro v275 w18 ho hb hg hat; rw [← Ny274.out] at ho; have n0_ := As_.mk (blk_grown (g := gb268) (o := .cells #[.int .i64 a0_0, .slice (some ad273) l0_1.length c0_1] 54 (0, 0)) (by (with_reducible repeat (first | refine kN_ ?_ _ | refine kd_ ?_ | refine ka_ ?_ _)); exact BK268.out) hg (Kd.R_ne HO_5.out BK268.out (by decide))); have n1_ := As_.mk (blk_grown (g := gb269) (o := .cells #[.int .i64 0, .slice none 0 0] 54 (0, 0)) (by (with_reducible repeat (first | refine kN_ ?_ _ | refine kd_ ?_ | refine ka_ ?_ _)); exact BK269.out) hg (Kd.R_ne HO_5.out BK269.out (by decide))); have n2_ := As_.mk (hb); have n3_ := As_.mk (ho); clear BK268; clear BK269; clear HB; clear HO_5; have BK268 := n0_; have BK269 := n1_; have HB := n2_; have HO276 := n3_; clear n0_ n1_ n2_ n3_; clear ho hb hg hat))
         go_roundg k1
         case measure => have := HK1.out; omega
         case rel => exact ⟨(y274), (wrap64 (Int.tdiv (wrap64 (x6_1 + (ji14))) 16777216)), (wrap64 (x7_1 + 1)), (by first | rfl | (simp; done) | (simp only [← hji14] <;> (first | rfl | simp)) | (simp [*]; done)), (by first | rfl | (simp; done) | (simp [*]; done)), H', ⟨by have := HK1.out; omega⟩, ⟨by (with_reducible repeat (first | apply Kd.R_alloc | apply Kd.R_drewN | apply Kd.R_drew)); exact HO276.out⟩, ⟨by (with_reducible repeat (first | refine kN_ ?_ _ | refine kd_ ?_ | refine ka_ ?_ _)); exact BK268.out⟩, ⟨by (with_reducible repeat (first | refine kN_ ?_ _ | refine kd_ ?_ | refine ka_ ?_ _)); exact BK269.out⟩, ⟨by repeat (first | (with_reducible first | exact HB.out | apply ba_ | apply pN_ | apply bd_ | refine bs_ ?_ GE268.out | refine bs_ ?_ GE269.out) | exact HB.out)⟩⟩
        ·rw [if_neg c15] at H
         exact absurd H (by simp)
       ·rw [if_neg c13] at H
        exact absurd H (by simp)
      ·rw [if_neg c11] at H
       exact absurd H (by simp)
     ·rw [if_neg c10] at H
      have c10b0 : decide (x7_1 < (l0_1.length : Int)) = false := decide_eq_false c10
      clear c10
      by_cases c19 : x5_1.length < 17592186044416
      ·rw [if_pos c19] at H
       have LMc19 := As_.mk c19
       clear c19
       obtain ⟨y277, hy277⟩ : ∃ y_ : List Int, y_ = (x5_1 ++ [x6_1]) := ⟨_, rfl⟩
       replace H : ((spec_l02Make.f k1 a0_0 y277).bind fun bt280 => (some (bt280.1, bt280.2))) = some (r1, r2) := by first | (rw [hy277]; with_reducible exact H) | (have H2_ := (Option.bind_some _ _).symm.trans H; rw [hy277]; with_reducible exact H2_) | (have H2_ := (Option.bind_some _ _).symm.trans H; with_reducible exact H2_) | with_reducible exact H | (rw [hy277]; exact H) | exact H
       have Ny277 := As_.mk hy277
       clear hy277
       replace H := Option.bind_eq_some_iff.mp H
       obtain ⟨⟨t280, t281⟩, A200, H⟩ := H
       replace H : (some (t280, t281)) = some (r1, r2) := H
       have A20 := As_.mk A200
       clear A200
       simp only [Option.some.injEq, Prod.mk.injEq] at H
       obtain ⟨rfl, rfl⟩ := H
       have hnb21 := NB268_269.out
       have hnc21 := NB269_268.out
       have hcz22_0 : wr.cell? ⟨gb268, 0, none⟩ = some (.int .i64 a0_0) := (kc_ BK268.out 0).trans rfl
       have hcz22_1 : wr.cell? ⟨gb268, 1, none⟩ = some (.slice A0_1 l0_1.length c0_1) := (kc_ BK268.out 1).trans rfl
       have hfz22_0 := kf_ BK268.out 0
       have hfz22_1 := kf_ BK268.out 1
       try go_wp2
       have n0_ := As_.mk (Kd.R_drew HO_5.out)
       have n1_ := As_.mk (kd_ BK268.out)
       have n2_ := As_.mk (kd_ BK269.out)
       have n3_ := As_.mk (bd_ HB.out)
       clear HO_5
       clear BK268
       clear BK269
       clear HB
       have HO_5 := n0_
       have BK268 := n1_
       have BK269 := n2_
       have HB := n3_
       clear n0_ n1_ n2_ n3_
       refine start_ (n := 8) (S := fun w' => w'.cell? ⟨gb268, 0, none⟩ = some (.int .i64 a0_0) ∧ w'.cell? ⟨gb268, 1, none⟩ = some (.slice A0_1 l0_1.length c0_1)) (ds := []) #[false, false, false, false, false, false, false, false] (by kernel_rfl) rfl rfl ⟨(kc_ BK268.out 0).trans rfl, (kc_ BK268.out 1).trans rfl⟩ (fun hHeld => ?_); refine with_tabW spec_l02Left.tab9 spec_l02Left.bits9 (fun HT_ HW_ => ?_)
       generalize wr.drew = w23 at HO_5 BK268 BK269 HB hHeld ⊢
       refine pure_ (i := 0) (N := some 36) (v := ?_) (a' := ?_) #[true, false, false, false, false, false, false, false] rfl rfl (any_of HT_.out (by kernel_rfl)) (fun _ _ _ h => h) (Or.inl ⟨by rfl, ?_⟩) ?_ ?_
       rotate_left
       ·intro w'
        go_simp
        with_reducible rfl
       rotate_left
       ·simp only [Act.put, List.setIfInBounds_toArray, List.set_cons_zero, List.set_cons_succ, i64_w, i32_w]
        rfl
       refine pure_ (i := 2) (N := some 38) (v := ?_) (a' := ?_) #[true, false, true, false, false, false, false, false] rfl rfl (any_of HT_.out (by kernel_rfl)) (fun _ _ _ h => h) (Or.inl ⟨by rfl, ?_⟩) ?_ ?_
       rotate_left
       ·intro w'
        go_simp
        with_reducible rfl
       rotate_left
       ·simp only [Act.put, List.setIfInBounds_toArray, List.set_cons_zero, List.set_cons_succ, i64_w, i32_w]
        rfl
       refine pure_ (i := 3) (N := some 39) (v := ?_) (a' := ?_) #[true, false, true, true, false, false, false, false] rfl rfl (any_of HT_.out (by kernel_rfl)) (fun _ _ _ h => h) (Or.inl ⟨by rfl, ?_⟩) ?_ ?_
       rotate_left
       ·intro w'
        go_simp
        with_reducible rfl
       rotate_left
       ·simp only [Act.put, List.setIfInBounds_toArray, List.set_cons_zero, List.set_cons_succ, i64_w, i32_w]
        rfl
       refine take_ (i := 1) (N := some 37) (v := ?_) (a' := ?_) #[true, true, true, true, false, false, false, false] rfl rfl (take_ofW HT_.out HW_.out (by kernel_rfl)) (fun _ _ _ h => h) (Or.inl ⟨by rfl, ?_⟩) hHeld ?_ ?_
       rotate_left
       ·rintro w' ⟨s0, s1⟩
        go_simp
        with_reducible rfl
       rotate_left
       ·simp only [Act.put, List.setIfInBounds_toArray, List.set_cons_zero, List.set_cons_succ, i64_w, i32_w]
        rfl
       refine one_ (i := 4) (N := some 40) #[true, true, true, true, true, false, false, false] rfl rfl (one_of HT_.out (by kernel_rfl)) (by decide) (fun K hK => ?_)
       refine value_ (w1 := ?_) (v := ?_) (by rfl) rfl ?_ ?_
       rotate_left 2
       ·go_simp
        constructor
        ·rfl
        ·rfl
       refine hK.out _ _ ⟨(kc_ (ka_ BK268.out _) 0).trans rfl, (kc_ (ka_ BK268.out _) 1).trans rfl⟩ (fun hHeld => ?_)
       clear hK K
       refine norm_ (a' := ?_) ?_ ?_
       rotate_left
       ·show Act.put _ (some 40) _ = _
        simp only [Act.put, List.setIfInBounds_toArray, List.set_cons_zero, List.set_cons_succ, i64_w, i32_w]
        rfl
       refine one_ (i := 5) (N := some 41) #[true, true, true, true, true, true, false, false] rfl rfl (one_of HT_.out (by kernel_rfl)) (by decide) (fun K hK => ?_)
       refine Kd.R_append_step (Kd.int .i64) (w0 := w) w.heap.size (by rfl) (.tmp 38) (.tmp 40) 52 2 (.int .i64 0) 8 rfl Tryz.underlying52 info2 rfl (by decide) (by omega) u5 x5_1 x6_1 [.int .i64 x6_1] (fun _ => True) (fun _ => False) rfl rfl ?aP (fun _ hk => hk.elim) ?aF ?aO ?aB ?aS ?aL ?_
       (case aP => exact rfl)
       (case aB => exact (by repeat (first | (with_reducible first | exact HB.out | apply ba_ | apply pN_ | apply bd_ | refine bs_ ?_ GE268.out | refine bs_ ?_ GE269.out) | exact HB.out)))
       (case aF => exact (fun _ _ => trivial))
       (case aO => exact (by (with_reducible repeat (first | apply Kd.R_alloc | apply Kd.R_drewN | apply Kd.R_drew)); exact HO_5.out))
       (case aS => exact (bz_ (by repeat (first | (with_reducible first | exact HB.out | apply ba_ | apply pN_ | apply bd_ | refine bs_ ?_ GE268.out | refine bs_ ?_ GE269.out) | exact HB.out))))
       (case aL => have := LMc19.out; omega)
       intro v278 w24 ho hb hg hat
       rw [← Ny277.out] at ho
       have n0_ := As_.mk (blk_grown (g := gb268) (o := .cells #[.int .i64 a0_0, .slice A0_1 l0_1.length c0_1] 54 (0, 0)) (by (with_reducible repeat (first | refine kN_ ?_ _ | refine kd_ ?_ | refine ka_ ?_ _)); exact BK268.out) hg (Kd.R_ne HO_5.out BK268.out (by decide)))
       have n1_ := As_.mk (blk_grown (g := gb269) (o := .cells #[.int .i64 0, .slice none 0 0] 54 (0, 0)) (by (with_reducible repeat (first | refine kN_ ?_ _ | refine kd_ ?_ | refine ka_ ?_ _)); exact BK269.out) hg (Kd.R_ne HO_5.out BK269.out (by decide)))
       have n2_ := As_.mk (hb)
       have n3_ := As_.mk (ho)
       clear BK268
       clear BK269
       clear HB
       clear HO_5
       have BK268 := n0_
       have BK269 := n1_
       have HB := n2_
       have HO279 := n3_
       clear n0_ n1_ n2_ n3_
       clear ho hb hg hat
       obtain ⟨Ao25, co25, eo25⟩ := Kd.R_slice HO279.out
       (first | subst eo25 | (injection eo25 with f1_ f2_ f3_; have f4_ := f1_.symm; have f5_ := f3_.symm; clear f1_ f2_ f3_; subst f4_; subst f5_))
       refine hK.out _ _ ⟨(kc_ BK268.out 0).trans rfl, (kc_ BK268.out 1).trans rfl⟩ (fun hHeld => ?_)
       clear hK K
       refine norm_ (a' := ?_) ?_ ?_
       rotate_left
       ·show Act.put _ (some 41) _ = _
        simp only [Act.put, List.setIfInBounds_toArray, List.set_cons_zero, List.set_cons_succ, i64_w, i32_w]
        rfl
       refine one_ (i := 6) (N := some 42) #[true, true, true, true, true, true, true, false] rfl rfl (one_of HT_.out (by kernel_rfl)) (by decide) (fun K hK => ?_)
       refine goes_ Tryz.func212 (by kernel_rfl) rfl #[.int .i64 a0_0, .slice Ao25 y277.length co25] (by rfl) rfl rfl (by (try simp only [List.map_toArray, List.map_cons, List.map_nil]); first | done | rfl | (simp only [List.length_drop, List.length_take]; rfl)) ?_
       with_reducible refine (spec_l02Make.calls k1 a0_0 _ _ y277 t280 t281 _ ?side1 ?side2 A20.out).mono ?_
       (case side1 => repeat (first | exact (Kd.R_reads' HO279.out).2.2 | (with_reducible refine Kd.C_alloc ?_ _) | (with_reducible refine Kd.C_drewN ?_ _) | (with_reducible refine Kd.C_drew ?_)))
       (case side2 => exact (Kd.R_reads' HO279.out).2.1)
       rintro e w26 ⟨v282, rfl, ho0, hb⟩
       refine ⟨_, rfl, ?_⟩
       have n0_ := As_.mk (Kd.R_elder' (by (with_reducible repeat (first | apply Kd.R_alloc | apply Kd.R_drewN | apply Kd.R_drew)); exact HO279.out) (Kd.R_base ho0) hb)
       have n1_ := As_.mk (Kd.R_lower (Kd.R_new' ho0 (Kd.R_lt (by (with_reducible repeat (first | apply Kd.R_alloc | apply Kd.R_drewN | apply Kd.R_drew)); exact HO279.out))) (bz_ (by repeat (first | (with_reducible first | exact HB.out | apply ba_ | apply pN_ | apply bd_ | refine bs_ ?_ GE268.out | refine bs_ ?_ GE269.out) | exact HB.out))))
       have n2_ := As_.mk (kb_ (g := gb268) (o := .cells #[.int .i64 a0_0, .slice A0_1 l0_1.length c0_1] 54 (0, 0)) (by (with_reducible repeat (first | refine kN_ ?_ _ | refine kd_ ?_ | refine ka_ ?_ _)); exact BK268.out) hb)
       have n3_ := As_.mk (kb_ (g := gb269) (o := .cells #[.int .i64 0, .slice none 0 0] 54 (0, 0)) (by (with_reducible repeat (first | refine kN_ ?_ _ | refine kd_ ?_ | refine ka_ ?_ _)); exact BK269.out) hb)
       have n4_ := As_.mk (bp_ (by repeat (first | (with_reducible first | exact HB.out | apply ba_ | apply pN_ | apply bd_ | refine bs_ ?_ GE268.out | refine bs_ ?_ GE269.out) | exact HB.out)) hb)
       clear HO279
       clear BK268
       clear BK269
       clear HB
       have HO279 := n0_
       have HO283 := n1_
       have BK268 := n2_
       have BK269 := n3_
       have HB := n4_
       clear n0_ n1_ n2_ n3_ n4_
       (try clear hb)
       (try clear hb2)
       (try clear hk)
       (try clear hi)
       (try clear ho0)
       obtain ⟨Ao28, co28, eo28⟩ := Kd.R_slice HO283.out
       (first | subst eo28 | (injection eo28 with f1_ f2_ f3_; have f4_ := f1_.symm; have f5_ := f3_.symm; clear f1_ f2_ f3_; subst f4_; subst f5_))
       refine hK.out _ _ ⟨(kc_ BK268.out 0).trans rfl, (kc_ BK268.out 1).trans rfl⟩ (fun hHeld => ?_)
       clear hK K
       refine norm_ (a' := ?_) ?_ ?_
       rotate_left
       ·show Act.put _ (some 42) _ = _
        simp only [Act.put, List.setIfInBounds_toArray, List.set_cons_zero, List.set_cons_succ, i64_w, i32_w]
        rfl
       refine one_ (i := 7) (N := none) #[true, true, true, true, true, true, true, true] rfl rfl (one_of HT_.out (by kernel_rfl)) (by decide) (fun K hK => ?_)
       have hs27 : w26.cell? ⟨gb269, 0, none⟩ = some (.int .i64 0) := (kc_ BK269.out 0).trans rfl
       have hfs27 := kf_ BK269.out 0
       have hns27_0 := NB268_269.out
       have hms27_0 := NB269_268.out
       have hs29 : w26.cell? ⟨gb269, 1, none⟩ = some (.slice none 0 0) := (kc_ BK269.out 1).trans rfl
       have hfs29 := kf_ BK269.out 1
       have hns29_0 := NB268_269.out
       have hms29_0 := NB269_268.out
       refine skip_ (w1 := ?_) (by rfl) rfl ?_ ?_
       rotate_left
       ·go_simp
        rfl
       refine hK.out _ _ ⟨((cell_far (p := ⟨gb269, _, none⟩) NB268_269.out _).trans (((cell_far (p := ⟨gb269, _, none⟩) NB268_269.out _).trans (hHeld.1)))), ((cell_far (p := ⟨gb269, _, none⟩) NB268_269.out _).trans (((cell_far (p := ⟨gb269, _, none⟩) NB268_269.out _).trans (hHeld.2))))⟩ (fun hHeld => ?_)
       clear hK K
       refine done_ (done_of HT_.out (by kernel_rfl)) ?_
       try go_wp2
       refine bodyPost_ret (results_cell_row rfl _ _ gb269 54 #[.int .i64 t280, .slice Ao28 t281.length co28] (0, 0) _ rfl (by (with_reducible repeat (first | refine kN_ ?_ _ | refine kd_ ?_ | refine ka_ ?_ _)); refine blk_put (cs := #[.int .i64 t280, .slice none 0 0]) ?_ 1 _ rfl; (with_reducible repeat (first | refine kN_ ?_ _ | refine kd_ ?_ | refine ka_ ?_ _)); refine blk_put (cs := #[.int .i64 0, .slice none 0 0]) ?_ 0 _ rfl; (with_reducible repeat (first | refine kN_ ?_ _ | refine kd_ ?_ | refine ka_ ?_ _)); exact BK269.out) Tryz.underlying54 rfl (by kernel_rfl)) rfl ?_
       exact ⟨_, by first | rfl | (simp [eN_, eS_] <;> rfl) | (simp only [← hji3]; first | rfl | (simp [eN_, eS_] <;> rfl)) | (simp [*, eN_, eS_] <;> rfl), by (with_reducible repeat (first | apply Kd.R_alloc | apply Kd.R_drewN | apply Kd.R_drew)); exact Kd.R_mono (Kd.R_far (p := ⟨gb269, 1, none⟩) (Kd.R_far (p := ⟨gb269, 0, none⟩) (Kd.R_types HO283.out BK269.out (by decide)) (fun _ hk => hk.2) (.int .i64 t280)) (fun _ hk => hk.2) (.slice Ao28 t281.length co28)) (fun _ hk => trivial), by repeat (first | (with_reducible first | exact HB.out | apply ba_ | apply pN_ | apply bd_ | refine bs_ ?_ GE268.out | refine bs_ ?_ GE269.out) | exact HB.out)⟩
      ·rw [if_neg c19] at H
       exact absurd H (by simp)
  ·rw [if_neg c5] at H
   exact absurd H (by simp)
 ·rw [if_neg c4] at H
  exact absurd H (by simp)
def spec_l02Cut.l0 : Nat → Int → List Int → Int → Int → List Int → Option (Int × List Int)
 | 0, _, _, _, _, _ => none
 | k + 1, x1, x5, x6, x180000, x180001 => if x6 < (x180001.length : Int) then (if 0 ≤ x6 then (if 0 ≤ (IntKind.u64.wrap (Int.tmod x1 24)) then (if (wrap64 (x6 + 1)) < (x180001.length : Int) then (if 0 ≤ (wrap64 (x6 + 1)) then (if 0 ≤ (IntKind.u64.wrap (wrap64 (24 - (Int.tmod x1 24)))) then (if x5.length < 17592186044416 then (spec_l02Cut.l0 k x1 (x5 ++ [Int.tmod (wrap64 ((shr .i64 (rd x180001 x6) (IntKind.u64.wrap (Int.tmod x1 24))) + (shl .i64 (rd x180001 (wrap64 (x6 + 1))) (IntKind.u64.wrap (wrap64 (24 - (Int.tmod x1 24))))))) 16777216]) (wrap64 (x6 + 1)) x180000 x180001) else (none)) else (none)) else (none)) else (if x5.length < 17592186044416 then (spec_l02Cut.l0 k x1 (x5 ++ [shr .i64 (rd x180001 x6) (IntKind.u64.wrap (Int.tmod x1 24))]) (wrap64 (x6 + 1)) x180000 x180001) else (none))) else (none)) else (none)) else ((spec_l02Make.f k x180000 x5).bind fun bt192 => (some (bt192.1, bt192.2)))
def spec_l02Cut.f (k : Nat) (a0_0 : Int) (l0_1 : List Int) (a1 : Int) : Option (Int × List Int) := spec_l02Cut.l0 k a1 (([] : List Int)) (wrap64 (Int.tdiv a1 24)) a0_0 l0_1
set_option maxHeartbeats 8000000 in
set_option maxRecDepth 100000 in
theorem spec_l02Cut.calls (k : Nat) (a0_0 : Int) (A0_1 : Option Addr) (c0_1 : Nat) (l0_1 : List Int) (a1 : Int) (r1 : Int) (r2 : List Int) (w : World) (hr0_1 : Kd.C (Kd.int .i64) w A0_1 l0_1.length l0_1) (hc0_1 : l0_1.length ≤ c0_1) (h : spec_l02Cut.f k a0_0 l0_1 a1 = some (r1, r2)) :
  Calls Tryz.prog 170 #[.agg #[.int .i64 a0_0, .slice A0_1 l0_1.length c0_1], .int .i64 a1] w fun e w' => ∃ v1_ : Value, e = .returned (.agg #[.int .i64 r1, v1_]) ∧ Kd.R (Kd.int .i64) 2 w' w.heap.size (fun _ => True) v1_ r2 ∧ Below w.heap.size w w' := by
 have hu54 := Tryz.underlying54
 have HR0_1 := As_.mk hr0_1
 have HC0_1 := As_.mk hc0_1
 clear hr0_1 hc0_1
 have HB := As_.mk (Below.refl w.heap.size w)
 have H : (spec_l02Cut.l0 k a1 (([] : List Int)) (wrap64 (Int.tdiv a1 24)) a0_0 l0_1) = some (r1, r2) := h
 clear h
 obtain ⟨y181, hy181⟩ : ∃ y_ : List Int, y_ = (([] : List Int)) := ⟨_, rfl⟩
 replace H : (spec_l02Cut.l0 k a1 y181 (wrap64 (Int.tdiv a1 24)) a0_0 l0_1) = some (r1, r2) := by first | (rw [hy181]; with_reducible exact H) | (have H2_ := (Option.bind_some _ _).symm.trans H; rw [hy181]; with_reducible exact H2_) | (have H2_ := (Option.bind_some _ _).symm.trans H; with_reducible exact H2_) | with_reducible exact H | (rw [hy181]; exact H) | exact H
 have Ny181 := As_.mk hy181
 clear hy181
 have H' := As_.mk H
 clear H
 go_enter Tryz.func170, Tryz.ntmps170
 go_wp2_with (first | ((with_reducible refine gate_dst (N := 2) rfl ?_); refine box_event ?hg (N := 2) ?hd (cs := #[.int .i64 a0_0, .slice A0_1 l0_1.length c0_1]) (t := 54) ?hr ?_; (case hd => rfl); (case hg => rfl); (case hr => first | (go_simp; done) | (go_simp; rfl)); intro gb179 hg w3 hbox hb; have n0_ := As_.mk (bp_ (by repeat (first | (with_reducible first | exact HB.out | apply ba_ | apply pN_ | apply bd_) | exact HB.out)) hb); have n1_ := As_.mk (hbox); have n2_ := As_.mk ((by rw [hg]; exact (bz_ (by repeat (first | (with_reducible first | exact HB.out | apply ba_ | apply pN_ | apply bd_) | exact HB.out))) : w.heap.size ≤ gb179)); have n3_ := As_.mk ((by rw [hg]; exact (bz_ (by repeat (first | (with_reducible first | exact HB.out | apply ba_ | apply pN_ | apply bd_) | exact HB.out))) : w.heap.size ≤ gb179)); clear HB; have HB := n0_; have BK179 := n1_; have GW179 := n2_; have GE179 := n3_; clear n0_ n1_ n2_ n3_; clear hb hbox hg) | ((with_reducible refine gate_dst (N := 4) rfl ?_); refine box_event ?hg (N := 4) ?hd (cs := #[.int .i64 0, .slice none 0 0]) (t := 54) ?hr ?_; (case hd => rfl); (case hg => rfl); (case hr => first | (go_simp; done) | (go_simp; rfl)); intro gb180 hg w4 hbox hb; have n0_ := As_.mk (kb_ (g := gb179) (o := .cells #[.int .i64 a0_0, .slice A0_1 l0_1.length c0_1] 54 (0, 0)) (by (with_reducible repeat (first | refine kN_ ?_ _ | refine kd_ ?_ | refine ka_ ?_ _)); exact BK179.out) hb); have n1_ := As_.mk (bp_ (by repeat (first | (with_reducible first | exact HB.out | apply ba_ | apply pN_ | apply bd_ | refine bs_ ?_ GE179.out) | exact HB.out)) hb); have n2_ := As_.mk (hbox); have n3_ := As_.mk ((by rw [hg]; exact (bz_ (by repeat (first | (with_reducible first | exact HB.out | apply ba_ | apply pN_ | apply bd_ | refine bs_ ?_ GE179.out) | exact HB.out))) : w.heap.size ≤ gb180)); have n4_ := As_.mk ((by rw [hg]; exact (bz_ (by repeat (first | (with_reducible first | exact HB.out | apply ba_ | apply pN_ | apply bd_ | refine bs_ ?_ GE179.out) | exact HB.out))) : w.heap.size ≤ gb180)); have n5_ := As_.mk ((by rw [hg]; exact Nat.ne_of_lt (blk_lt (g := gb179) (o := .cells #[.int .i64 a0_0, .slice A0_1 l0_1.length c0_1] 54 (0, 0)) (by (with_reducible repeat (first | refine kN_ ?_ _ | refine kd_ ?_ | refine ka_ ?_ _)); exact BK179.out)) : gb179 ≠ gb180)); have n6_ := As_.mk ((by rw [hg]; exact Nat.ne_of_gt (blk_lt (g := gb179) (o := .cells #[.int .i64 a0_0, .slice A0_1 l0_1.length c0_1] 54 (0, 0)) (by (with_reducible repeat (first | refine kN_ ?_ _ | refine kd_ ?_ | refine ka_ ?_ _)); exact BK179.out)) : gb180 ≠ gb179)); clear BK179; clear HB; have BK179 := n0_; have HB := n1_; have BK180 := n2_; have GW180 := n3_; have GE180 := n4_; have NB179_180 := n5_; have NB180_179 := n6_; clear n0_ n1_ n2_ n3_ n4_ n5_ n6_; clear hb hbox hg) | ((with_reducible refine gate_dst (N := 8) rfl ?_); refine Kd.R_lit (Kd.int .i64) _ 2 ?hg (N := 8) ?hd (xs := ([] : List Int)) (inner := []) (ok := fun _ => True) (okp := fun _ => True) ?hr ?hp (fun _ hk => hk) trivial (Below.refl _ _) (Nat.le_refl _) (by simp) ?_; (case hd => rfl); (case hg => rfl); (case hr => first | (go_simp; done) | (go_simp; rfl)); (case hp => exact (Reps.none _ _)); intro v182 w5 ho6 hb hg_ hnew_; clear hg_ hnew_; (first | rw [← Ny181.out] at ho6 | (simp only [Int.reduceToNat] at ho6; rw [← Ny181.out] at ho6)); have n0_ := As_.mk (Kd.R_lower ho6 (bz_ (by repeat (first | (with_reducible first | exact HB.out | apply ba_ | apply pN_ | apply bd_ | refine bs_ ?_ GE179.out | refine bs_ ?_ GE180.out) | exact HB.out)))); have n1_ := As_.mk (kb_ (g := gb179) (o := .cells #[.int .i64 a0_0, .slice A0_1 l0_1.length c0_1] 54 (0, 0)) (by (with_reducible repeat (first | refine kN_ ?_ _ | refine kd_ ?_ | refine ka_ ?_ _)); exact BK179.out) hb); have n2_ := As_.mk (kb_ (g := gb180) (o := .cells #[.int .i64 0, .slice none 0 0] 54 (0, 0)) (by (with_reducible repeat (first | refine kN_ ?_ _ | refine kd_ ?_ | refine ka_ ?_ _)); exact BK180.out) hb); have n3_ := As_.mk (bp_ (by repeat (first | (with_reducible first | exact HB.out | apply ba_ | apply pN_ | apply bd_ | refine bs_ ?_ GE179.out | refine bs_ ?_ GE180.out) | exact HB.out)) hb); clear BK179; clear BK180; clear HB; have HO183 := n0_; have BK179 := n1_; have BK180 := n2_; have HB := n3_; clear n0_ n1_ n2_ n3_; clear hb ho6))
 go_loopg [5, 6] k (fun kq v5 v6 w' => ∃ (x5_1 : List Int) (x6_1 : Int), v6 = .int .i64 x6_1 ∧ As_ (spec_l02Cut.l0 kq a1 x5_1 x6_1 a0_0 l0_1 = some (r1, r2)) ∧ As_ (kq ≤ k) ∧ As_ (Kd.R (Kd.int .i64) 2 w' w.heap.size (fun _ => True) v5 x5_1) ∧ As_ (w'.heap[gb179]? = some (.cells #[.int .i64 a0_0, (.slice A0_1 l0_1.length c0_1)] 54 (0, 0))) ∧ As_ (w'.heap[gb180]? = some (.cells #[.int .i64 0, (.slice none 0 0)] 54 (0, 0))) ∧ As_ (Below w.heap.size w w'))
 case atStart => exact ⟨(y181), (wrap64 (Int.tdiv a1 24)), (by first | rfl | (simp; done) | (simp [*]; done)), H', ⟨Nat.le_refl _⟩, ⟨by (with_reducible repeat (first | apply Kd.R_alloc | apply Kd.R_drewN | apply Kd.R_drew)); exact HO183.out⟩, ⟨by (with_reducible repeat (first | refine kN_ ?_ _ | refine kd_ ?_ | refine ka_ ?_ _)); exact BK179.out⟩, ⟨by (with_reducible repeat (first | refine kN_ ?_ _ | refine kd_ ?_ | refine ka_ ?_ _)); exact BK180.out⟩, ⟨by repeat (first | (with_reducible first | exact HB.out | apply ba_ | apply pN_ | apply bd_ | refine bs_ ?_ GE179.out | refine bs_ ?_ GE180.out) | exact HB.out)⟩⟩
 case round =>
  clear H'
  try clear c1
  try clear p2
  try clear p6
  obtain ⟨x5_1, x6_1, rfl, HA, HK1, HO_5, BK179, BK180, HB⟩ := hrel
  cases gk with
  | zero => exact absurd HA.out (by simp [spec_l02Cut.l0])
  | succ k1 =>
   have H := HA.out
   clear HA
   simp only [spec_l02Cut.l0] at H
   by_cases c7 : x6_1 < (l0_1.length : Int)
   ·rw [if_pos c7] at H
    have c7b0 : decide (x6_1 < (l0_1.length : Int)) = true := decide_eq_true c7
    clear c7
    by_cases c8 : 0 ≤ x6_1
    ·rw [if_pos c8] at H
     have c8b0 : decide (0 ≤ x6_1) = true := decide_eq_true c8
     clear c8
     obtain ⟨ji9, hji9⟩ : ∃ j_ : Int, (IntKind.u64.wrap (Int.tmod a1 24)) = j_ := ⟨_, rfl⟩
     replace H : (if 0 ≤ (ji9) then (if (wrap64 (x6_1 + 1)) < (l0_1.length : Int) then (if 0 ≤ (wrap64 (x6_1 + 1)) then (if 0 ≤ (IntKind.u64.wrap (wrap64 (24 - (Int.tmod a1 24)))) then (if x5_1.length < 17592186044416 then (spec_l02Cut.l0 k1 a1 (x5_1 ++ [Int.tmod (wrap64 ((shr .i64 (rd l0_1 x6_1) (ji9)) + (shl .i64 (rd l0_1 (wrap64 (x6_1 + 1))) (IntKind.u64.wrap (wrap64 (24 - (Int.tmod a1 24))))))) 16777216]) (wrap64 (x6_1 + 1)) a0_0 l0_1) else (none)) else (none)) else (none)) else (if x5_1.length < 17592186044416 then (spec_l02Cut.l0 k1 a1 (x5_1 ++ [shr .i64 (rd l0_1 x6_1) (ji9)]) (wrap64 (x6_1 + 1)) a0_0 l0_1) else (none))) else (none)) = some (r1, r2) := by first | (rw [hji9] at H; exact H) | (simp only [hji9] at H ⊢; exact H)
     by_cases c10 : 0 ≤ (ji9)
     ·rw [if_pos c10] at H
      have c10b0 := eq_true c10
      have c10b1 : decide (0 ≤ (ji9)) = true := decide_eq_true c10
      clear c10
      obtain ⟨ji11, hji11⟩ : ∃ j_ : Int, (shr .i64 (rd l0_1 x6_1) (ji9)) = j_ := ⟨_, rfl⟩
      replace H : (if (wrap64 (x6_1 + 1)) < (l0_1.length : Int) then (if 0 ≤ (wrap64 (x6_1 + 1)) then (if 0 ≤ (IntKind.u64.wrap (wrap64 (24 - (Int.tmod a1 24)))) then (if x5_1.length < 17592186044416 then (spec_l02Cut.l0 k1 a1 (x5_1 ++ [Int.tmod (wrap64 ((ji11) + (shl .i64 (rd l0_1 (wrap64 (x6_1 + 1))) (IntKind.u64.wrap (wrap64 (24 - (Int.tmod a1 24))))))) 16777216]) (wrap64 (x6_1 + 1)) a0_0 l0_1) else (none)) else (none)) else (none)) else (if x5_1.length < 17592186044416 then (spec_l02Cut.l0 k1 a1 (x5_1 ++ [ji11]) (wrap64 (x6_1 + 1)) a0_0 l0_1) else (none))) = some (r1, r2) := by first | (rw [hji11] at H; exact H) | (simp only [hji11] at H ⊢; exact H)
      have hji11_ : ((rd l0_1 x6_1) / 2 ^ min (ji9).toNat 64) = ji11 := hji11
      have hji11z : (ji9) ≤ 64 → ((rd l0_1 x6_1) / 2 ^ (ji9).toNat) = ji11 := shr_small hji11
      by_cases c12 : (wrap64 (x6_1 + 1)) < (l0_1.length : Int)
      ·rw [if_pos c12] at H
       have c12b0 : decide ((wrap64 (x6_1 + 1)) < (l0_1.length : Int)) = true := decide_eq_true c12
       clear c12
       obtain ⟨ji13, hji13⟩ : ∃ j_ : Int, (wrap64 (x6_1 + 1)) = j_ := ⟨_, rfl⟩
       replace H : (if 0 ≤ (ji13) then (if 0 ≤ (IntKind.u64.wrap (wrap64 (24 - (Int.tmod a1 24)))) then (if x5_1.length < 17592186044416 then (spec_l02Cut.l0 k1 a1 (x5_1 ++ [Int.tmod (wrap64 ((ji11) + (shl .i64 (rd l0_1 (ji13)) (IntKind.u64.wrap (wrap64 (24 - (Int.tmod a1 24))))))) 16777216]) ji13 a0_0 l0_1) else (none)) else (none)) else (none)) = some (r1, r2) := by first | (rw [hji13] at H; exact H) | (simp only [hji13] at H ⊢; exact H)
       (try rw [hji13] at c12b0)
       have hji13w : (IntKind.i64.wrap (x6_1 + 1)) = ji13 := (i64_w _).trans hji13
       by_cases c14 : 0 ≤ (ji13)
       ·rw [if_pos c14] at H
        have c14b0 : decide (0 ≤ (ji13)) = true := decide_eq_true c14
        clear c14
        obtain ⟨ji15, hji15⟩ : ∃ j_ : Int, (IntKind.u64.wrap (wrap64 (24 - (Int.tmod a1 24)))) = j_ := ⟨_, rfl⟩
        replace H : (if 0 ≤ (ji15) then (if x5_1.length < 17592186044416 then (spec_l02Cut.l0 k1 a1 (x5_1 ++ [Int.tmod (wrap64 ((ji11) + (shl .i64 (rd l0_1 (ji13)) (ji15)))) 16777216]) ji13 a0_0 l0_1) else (none)) else (none)) = some (r1, r2) := by first | (rw [hji15] at H; exact H) | (simp only [hji15] at H ⊢; exact H)
        by_cases c16 : 0 ≤ (ji15)
        ·rw [if_pos c16] at H
         have c16b0 := eq_true c16
         have c16b1 : decide (0 ≤ (ji15)) = true := decide_eq_true c16
         clear c16
         obtain ⟨ji17, hji17⟩ : ∃ j_ : Int, (shl .i64 (rd l0_1 (ji13)) (ji15)) = j_ := ⟨_, rfl⟩
         replace H : (if x5_1.length < 17592186044416 then (spec_l02Cut.l0 k1 a1 (x5_1 ++ [Int.tmod (wrap64 ((ji11) + (ji17))) 16777216]) ji13 a0_0 l0_1) else (none)) = some (r1, r2) := by first | (rw [hji17] at H; exact H) | (simp only [hji17] at H ⊢; exact H)
         have hji17_ : (IntKind.i64.wrap ((rd l0_1 (ji13)) * 2 ^ min (ji15).toNat 64)) = ji17 := hji17
         have hji17z : (ji15) ≤ 64 → (IntKind.i64.wrap ((rd l0_1 (ji13)) * 2 ^ (ji15).toNat)) = ji17 := shl_small hji17
         have hji17y : (wrap64 ((rd l0_1 (ji13)) * 2 ^ min (ji15).toNat 64)) = ji17 := (i64_w _).symm.trans hji17_
         have hji17x : (ji15) ≤ 64 → (wrap64 ((rd l0_1 (ji13)) * 2 ^ (ji15).toNat)) = ji17 := fun h_ => (i64_w _).symm.trans (hji17z h_)
         by_cases c18 : x5_1.length < 17592186044416
         ·rw [if_pos c18] at H
          have LMc18 := As_.mk c18
          clear c18
          obtain ⟨y186, hy186⟩ : ∃ y_ : List Int, y_ = (x5_1 ++ [Int.tmod (wrap64 ((ji11) + (ji17))) 16777216]) := ⟨_, rfl⟩
          replace H : (spec_l02Cut.l0 k1 a1 y186 ji13 a0_0 l0_1) = some (r1, r2) := by first | (rw [hy186]; with_reducible exact H) | (have H2_ := (Option.bind_some _ _).symm.trans H; rw [hy186]; with_reducible exact H2_) | (have H2_ := (Option.bind_some _ _).symm.trans H; with_reducible exact H2_) | with_reducible exact H | (rw [hy186]; exact H) | exact H
          have Ny186 := As_.mk hy186
          clear hy186
          have H' := As_.mk H
          clear H
          have hnb19 := NB179_180.out
          have hnc19 := NB180_179.out
          have hcz20_0 : wr.cell? ⟨gb179, 0, none⟩ = some (.int .i64 a0_0) := (kc_ BK179.out 0).trans rfl
          have hcz20_1 : wr.cell? ⟨gb179, 1, none⟩ = some (.slice A0_1 l0_1.length c0_1) := (kc_ BK179.out 1).trans rfl
          have hfz20_0 := kf_ BK179.out 0
          have hfz20_1 := kf_ BK179.out 1
          have p184 : 0 ≤ (x6_1 : Int) := of_decide_eq_true (by first | (with_reducible assumption) | assumption)
          have q184 : x6_1 < (l0_1.length : Int) := of_decide_eq_true (by first | (with_reducible assumption) | assumption)
          obtain ⟨ad184, e184, hx184_0⟩ := Kd.at_int HR0_1.out x6_1 p184 q184
          cases e184
          replace hx184_0 := (HB.out.cell (World.block_lt_of_cell? w _ hx184_0)).trans hx184_0
          replace p184 := eq_true p184
          replace q184 := eq_true q184
          have p185 : 0 ≤ ((ji13) : Int) := of_decide_eq_true (by first | (with_reducible assumption) | assumption)
          have q185 : (ji13) < (l0_1.length : Int) := of_decide_eq_true (by first | (with_reducible assumption) | assumption)
          obtain ⟨ad185, e185, hx185_0⟩ := Kd.at_int HR0_1.out (ji13) p185 q185
          obtain rfl : ad184 = ad185 := (by injection e185)
          replace hx185_0 := (HB.out.cell (World.block_lt_of_cell? w _ hx185_0)).trans hx185_0
          replace p185 := eq_true p185
          replace q185 := eq_true q185
          go_wp2_with (first | ((with_reducible refine gate_builtin (b := .append) (xs := #[.tmp 47, .tmp 49]) rfl ?_); at_builtin; refine Kd.R_append (Kd.int .i64) (w0 := w) w.heap.size rfl (.tmp 47) (.tmp 49) 52 2 (.int .i64 0) 8 rfl Tryz.underlying52 info2 rfl (by decide) (by omega) u5 x5_1 (Int.tmod (wrap64 ((ji11) + (ji17))) 16777216) [.int .i64 (Int.tmod (wrap64 ((ji11) + (ji17))) 16777216)] (fun _ => True) (fun _ => False) rfl rfl ?aP (fun _ hk => hk.elim) ?aF ?aO ?aB ?aS ?aL ?_; (case aP => exact rfl); (case aB => exact (by repeat (first | (with_reducible first | exact HB.out | apply ba_ | apply pN_ | apply bd_ | refine bs_ ?_ GE179.out | refine bs_ ?_ GE180.out) | exact HB.out))); (case aF => exact (fun _ _ => trivial)); (case aO => exact (by (with_reducible repeat (first | apply Kd.R_alloc | apply Kd.R_drewN | apply Kd.R_drew)); exact HO_5.out)); (case aS => exact (bz_ (by repeat (first | (with_reducible first | exact HB.out | apply ba_ | apply pN_ | apply bd_ | refine bs_ ?_ GE179.out | refine bs_ ?_ GE180.out) | exact HB.out)))); (case aL => have := LMc18.out; omega); intro v187 w21 ho hb hg hat; rw [← Ny186.out] at ho; have n0_ := As_.mk (blk_grown (g := gb179) (o := .cells #[.int .i64 a0_0, .slice (some ad184) l0_1.length c0_1] 54 (0, 0)) (by (with_reducible repeat (first | refine kN_ ?_ _ | refine kd_ ?_ | refine ka_ ?_ _)); exact BK179.out) hg (Kd.R_ne HO_5.out BK179.out (by decide))); have n1_ := As_.mk (blk_grown (g := gb180) (o := .cells #[.int .i64 0, .slice none 0 0] 54 (0, 0)) (by (with_reducible repeat (first | refine kN_ ?_ _ | refine kd_ ?_ | refine ka_ ?_ _)); exact BK180.out) hg (Kd.R_ne HO_5.out BK180.out (by decide))); have n2_ := As_.mk (hb); have n3_ := As_.mk (ho); clear BK179; clear BK180; clear HB; clear HO_5; have BK179 := n0_; have BK180 := n1_; have HB := n2_; have HO188 := n3_; clear n0_ n1_ n2_ n3_; clear ho hb hg hat))
          go_roundg k1
          case measure => have := HK1.out; omega
          case rel => exact ⟨(y186), (ji13), (by first | rfl | (simp; done) | (simp only [← hji13] <;> (first | rfl | simp)) | (simp [*]; done)), H', ⟨by have := HK1.out; omega⟩, ⟨by (with_reducible repeat (first | apply Kd.R_alloc | apply Kd.R_drewN | apply Kd.R_drew)); exact HO188.out⟩, ⟨by (with_reducible repeat (first | refine kN_ ?_ _ | refine kd_ ?_ | refine ka_ ?_ _)); exact BK179.out⟩, ⟨by (with_reducible repeat (first | refine kN_ ?_ _ | refine kd_ ?_ | refine ka_ ?_ _)); exact BK180.out⟩, ⟨by repeat (first | (with_reducible first | exact HB.out | apply ba_ | apply pN_ | apply bd_ | refine bs_ ?_ GE179.out | refine bs_ ?_ GE180.out) | exact HB.out)⟩⟩
         ·rw [if_neg c18] at H
          exact absurd H (by simp)
        ·rw [if_neg c16] at H
         exact absurd H (by simp)
       ·rw [if_neg c14] at H
        exact absurd H (by simp)
      ·rw [if_neg c12] at H
       have c12b0 : decide ((wrap64 (x6_1 + 1)) < (l0_1.length : Int)) = false := decide_eq_false c12
       clear c12
       by_cases c22 : x5_1.length < 17592186044416
       ·rw [if_pos c22] at H
        have LMc22 := As_.mk c22
        clear c22
        obtain ⟨y189, hy189⟩ : ∃ y_ : List Int, y_ = (x5_1 ++ [ji11]) := ⟨_, rfl⟩
        replace H : (spec_l02Cut.l0 k1 a1 y189 (wrap64 (x6_1 + 1)) a0_0 l0_1) = some (r1, r2) := by first | (rw [hy189]; with_reducible exact H) | (have H2_ := (Option.bind_some _ _).symm.trans H; rw [hy189]; with_reducible exact H2_) | (have H2_ := (Option.bind_some _ _).symm.trans H; with_reducible exact H2_) | with_reducible exact H | (rw [hy189]; exact H) | exact H
        have Ny189 := As_.mk hy189
        clear hy189
        have H' := As_.mk H
        clear H
        have hnb23 := NB179_180.out
        have hnc23 := NB180_179.out
        have hcz24_0 : wr.cell? ⟨gb179, 0, none⟩ = some (.int .i64 a0_0) := (kc_ BK179.out 0).trans rfl
        have hcz24_1 : wr.cell? ⟨gb179, 1, none⟩ = some (.slice A0_1 l0_1.length c0_1) := (kc_ BK179.out 1).trans rfl
        have hfz24_0 := kf_ BK179.out 0
        have hfz24_1 := kf_ BK179.out 1
        have p184 : 0 ≤ (x6_1 : Int) := of_decide_eq_true (by first | (with_reducible assumption) | assumption)
        have q184 : x6_1 < (l0_1.length : Int) := of_decide_eq_true (by first | (with_reducible assumption) | assumption)
        obtain ⟨ad184, e184, hx184_0⟩ := Kd.at_int HR0_1.out x6_1 p184 q184
        cases e184
        replace hx184_0 := (HB.out.cell (World.block_lt_of_cell? w _ hx184_0)).trans hx184_0
        replace p184 := eq_true p184
        replace q184 := eq_true q184
        go_wp2_with (first | ((with_reducible refine gate_builtin (b := .append) (xs := #[.tmp 47, .tmp 49]) rfl ?_); at_builtin; refine Kd.R_append (Kd.int .i64) (w0 := w) w.heap.size rfl (.tmp 47) (.tmp 49) 52 2 (.int .i64 0) 8 rfl Tryz.underlying52 info2 rfl (by decide) (by omega) u5 x5_1 ji11 [.int .i64 ji11] (fun _ => True) (fun _ => False) rfl rfl ?aP (fun _ hk => hk.elim) ?aF ?aO ?aB ?aS ?aL ?_; (case aP => exact rfl); (case aB => exact (by repeat (first | (with_reducible first | exact HB.out | apply ba_ | apply pN_ | apply bd_ | refine bs_ ?_ GE179.out | refine bs_ ?_ GE180.out) | exact HB.out))); (case aF => exact (fun _ _ => trivial)); (case aO => exact (by (with_reducible repeat (first | apply Kd.R_alloc | apply Kd.R_drewN | apply Kd.R_drew)); exact HO_5.out)); (case aS => exact (bz_ (by repeat (first | (with_reducible first | exact HB.out | apply ba_ | apply pN_ | apply bd_ | refine bs_ ?_ GE179.out | refine bs_ ?_ GE180.out) | exact HB.out)))); (case aL => have := LMc22.out; omega); intro v190 w25 ho hb hg hat; rw [← Ny189.out] at ho; have n0_ := As_.mk (blk_grown (g := gb179) (o := .cells #[.int .i64 a0_0, .slice (some ad184) l0_1.length c0_1] 54 (0, 0)) (by (with_reducible repeat (first | refine kN_ ?_ _ | refine kd_ ?_ | refine ka_ ?_ _)); exact BK179.out) hg (Kd.R_ne HO_5.out BK179.out (by decide))); have n1_ := As_.mk (blk_grown (g := gb180) (o := .cells #[.int .i64 0, .slice none 0 0] 54 (0, 0)) (by (with_reducible repeat (first | refine kN_ ?_ _ | refine kd_ ?_ | refine ka_ ?_ _)); exact BK180.out) hg (Kd.R_ne HO_5.out BK180.out (by decide))); have n2_ := As_.mk (hb); have n3_ := As_.mk (ho); clear BK179; clear BK180; clear HB; clear HO_5; have BK179 := n0_; have BK180 := n1_; have HB := n2_; have HO191 := n3_; clear n0_ n1_ n2_ n3_; clear ho hb hg hat))
        go_roundg k1
        case measure => have := HK1.out; omega
        case rel => exact ⟨(y189), (wrap64 (x6_1 + 1)), (by first | rfl | (simp; done) | (simp [*]; done)), H', ⟨by have := HK1.out; omega⟩, ⟨by (with_reducible repeat (first | apply Kd.R_alloc | apply Kd.R_drewN | apply Kd.R_drew)); exact HO191.out⟩, ⟨by (with_reducible repeat (first | refine kN_ ?_ _ | refine kd_ ?_ | refine ka_ ?_ _)); exact BK179.out⟩, ⟨by (with_reducible repeat (first | refine kN_ ?_ _ | refine kd_ ?_ | refine ka_ ?_ _)); exact BK180.out⟩, ⟨by repeat (first | (with_reducible first | exact HB.out | apply ba_ | apply pN_ | apply bd_ | refine bs_ ?_ GE179.out | refine bs_ ?_ GE180.out) | exact HB.out)⟩⟩
       ·rw [if_neg c22] at H
        exact absurd H (by simp)
     ·rw [if_neg c10] at H
      exact absurd H (by simp)
    ·rw [if_neg c8] at H
     exact absurd H (by simp)
   ·rw [if_neg c7] at H
    have c7b0 : decide (x6_1 < (l0_1.length : Int)) = false := decide_eq_false c7
    clear c7
    replace H := Option.bind_eq_some_iff.mp H
    obtain ⟨⟨t192, t193⟩, A260, H⟩ := H
    replace H : (some (t192, t193)) = some (r1, r2) := H
    have A26 := As_.mk A260
    clear A260
    simp only [Option.some.injEq, Prod.mk.injEq] at H
    obtain ⟨rfl, rfl⟩ := H
    have hnb27 := NB179_180.out
    have hnc27 := NB180_179.out
    have hcz28_0 : wr.cell? ⟨gb179, 0, none⟩ = some (.int .i64 a0_0) := (kc_ BK179.out 0).trans rfl
    have hcz28_1 : wr.cell? ⟨gb179, 1, none⟩ = some (.slice A0_1 l0_1.length c0_1) := (kc_ BK179.out 1).trans rfl
    have hfz28_0 := kf_ BK179.out 0
    have hfz28_1 := kf_ BK179.out 1
    obtain ⟨Ao29, co29, eo29⟩ := Kd.R_slice HO_5.out
    subst eo29
    go_wp2_with (first | ((with_reducible refine gate_callee (f := 212) rfl ?_); refine goesL_ (some 54) rfl rfl Tryz.func212 (by kernel_rfl) rfl #[.int .i64 a0_0, .slice Ao29 x5_1.length co29] rfl (by (try simp only [List.map_toArray, List.map_cons, List.map_nil]); first | done | rfl | (simp only [List.length_drop, List.length_take]; rfl)) ?_; (with_reducible refine (spec_l02Make.calls k1 a0_0 _ _ x5_1 t192 t193 _ ?side1 ?side2 A26.out).mono ?_); (case side1 => repeat (first | exact (Kd.R_reads' HO_5.out).2.2 | (with_reducible refine Kd.C_alloc ?_ _) | (with_reducible refine Kd.C_drewN ?_ _) | (with_reducible refine Kd.C_drew ?_))); (case side2 => exact (Kd.R_reads' HO_5.out).2.1); rintro e w30 ⟨v194, rfl, ho0, hb⟩; refine ⟨_, rfl, ?_⟩; have n0_ := As_.mk (Kd.R_elder' (by (with_reducible repeat (first | apply Kd.R_alloc | apply Kd.R_drewN | apply Kd.R_drew)); exact HO_5.out) (Kd.R_base ho0) hb); have n1_ := As_.mk (Kd.R_lower (Kd.R_new' ho0 (Kd.R_lt (by (with_reducible repeat (first | apply Kd.R_alloc | apply Kd.R_drewN | apply Kd.R_drew)); exact HO_5.out))) (bz_ (by repeat (first | (with_reducible first | exact HB.out | apply ba_ | apply pN_ | apply bd_ | refine bs_ ?_ GE179.out | refine bs_ ?_ GE180.out) | exact HB.out)))); have n2_ := As_.mk (kb_ (g := gb179) (o := .cells #[.int .i64 a0_0, .slice A0_1 l0_1.length c0_1] 54 (0, 0)) (by (with_reducible repeat (first | refine kN_ ?_ _ | refine kd_ ?_ | refine ka_ ?_ _)); exact BK179.out) hb); have n3_ := As_.mk (kb_ (g := gb180) (o := .cells #[.int .i64 0, .slice none 0 0] 54 (0, 0)) (by (with_reducible repeat (first | refine kN_ ?_ _ | refine kd_ ?_ | refine ka_ ?_ _)); exact BK180.out) hb); have n4_ := As_.mk (bp_ (by repeat (first | (with_reducible first | exact HB.out | apply ba_ | apply pN_ | apply bd_ | refine bs_ ?_ GE179.out | refine bs_ ?_ GE180.out) | exact HB.out)) hb); clear HO_5; clear BK179; clear BK180; clear HB; have HO_5 := n0_; have HO195 := n1_; have BK179 := n2_; have BK180 := n3_; have HB := n4_; clear n0_ n1_ n2_ n3_ n4_; (try clear hb); (try clear hb2); (try clear hk); (try clear hi); (try clear ho0); have hcz31_0 : w30.cell? ⟨gb180, 0, none⟩ = some (.int .i64 0) := (kc_ BK180.out 0).trans rfl; have hcz31_1 : w30.cell? ⟨gb180, 1, none⟩ = some (.slice none 0 0) := (kc_ BK180.out 1).trans rfl; have hfz31_0 := kf_ BK180.out 0; have hfz31_1 := kf_ BK180.out 1; obtain ⟨Ao32, co32, eo32⟩ := Kd.R_slice HO195.out; subst eo32))
    refine bodyPost_ret (results_cell_row rfl _ _ gb180 54 #[.int .i64 t192, .slice Ao32 t193.length co32] (0, 0) _ rfl (by (with_reducible repeat (first | refine kN_ ?_ _ | refine kd_ ?_ | refine ka_ ?_ _)); refine blk_put (cs := #[.int .i64 t192, .slice none 0 0]) ?_ 1 _ rfl; (with_reducible repeat (first | refine kN_ ?_ _ | refine kd_ ?_ | refine ka_ ?_ _)); refine blk_put (cs := #[.int .i64 0, .slice none 0 0]) ?_ 0 _ rfl; (with_reducible repeat (first | refine kN_ ?_ _ | refine kd_ ?_ | refine ka_ ?_ _)); exact BK180.out) Tryz.underlying54 rfl (by kernel_rfl)) rfl ?_
    exact ⟨_, by first | rfl | (simp [eN_, eS_] <;> rfl) | (simp [*, eN_, eS_] <;> rfl), by (with_reducible repeat (first | apply Kd.R_alloc | apply Kd.R_drewN | apply Kd.R_drew)); exact Kd.R_mono (Kd.R_far (p := ⟨gb180, 1, none⟩) (Kd.R_far (p := ⟨gb180, 0, none⟩) (Kd.R_types HO195.out BK180.out (by decide)) (fun _ hk => hk.2) (.int .i64 t192)) (fun _ hk => hk.2) (.slice Ao32 t193.length co32)) (fun _ hk => trivial), by repeat (first | (with_reducible first | exact HB.out | apply ba_ | apply pN_ | apply bd_ | refine bs_ ?_ GE179.out | refine bs_ ?_ GE180.out) | exact HB.out)⟩
end Go.Proofs.YtlogcnglmdpejaaGreatDoor.Pq
end
