/- Part 15 of the proof of the card of FnExactV: walks of the functions and plain facts on them. -/
import Derived.Test.YtlogcnglmdpejaaGreatDoorMV3
import Derived.Test.YtlogcnglmdpejaaGreatDoorMV14
import Derived.Lib.ParseIntB
import Derived.Lib.IndexLaws
section
namespace Go.Proofs.YtlogcnglmdpejaaGreatDoor.Pq
open Go.RowKit Go.Proofs.YtlogcnglmdpejaaGreatDoorW.PrintWords Go.Proofs.YtlogcnglmdpejaaGreatDoorW.PrintLast Go.Proofs.YtlogcnglmdpejaaGreatDoorW.PrintMore
attribute [local go_sem] max2_int min2_int max_two min_two max_three min_three max_four min_four
set_option linter.unusedVariables false
set_option linter.unusedSimpArgs false
mutual
def impl_IsWhole.j0 : Nat → Int → Bool → Int → List Int → Option (Bool)
 | 0, _, _, _, _ => none
 | k + 1, x3, x28, x421000, x421001 => if x28 = true then (some false) else (impl_IsWhole.l0 k x3 x421001 (x421001.length : Int) 0 x421000 x421001)
def impl_IsWhole.l0 : Nat → Int → List Int → Int → Int → Int → List Int → Option (Bool)
 | 0, _, _, _, _, _, _ => none
 | k + 1, x3, x30, x31, x32, x421000, x421001 => if x32 < x31 then (if 0 ≤ x32 then (if x32 < (x30.length : Int) then (if (rd x30 x32) < 0 then (some false) else (if (rd x30 x32) > 16777215 then (some false) else (impl_IsWhole.l0 k x3 x30 x31 (wrap64 (x32 + 1)) x421000 x421001))) else (none)) else (none)) else (if x3 = 0 then (some true) else (if 0 ≤ (wrap64 (x3 - 1)) then (if (wrap64 (x3 - 1)) < (x421001.length : Int) then (some ((rd x421001 (wrap64 (x3 - 1))) != 0)) else (none)) else (none)))
end
def impl_IsWhole.f (k : Nat) (a0_0 : Int) (l0_1 : List Int) : Option (Bool) := if (l0_1.length : Int) > 100 then (impl_IsWhole.j0 k (l0_1.length : Int) true a0_0 l0_1) else (if a0_0 < (-1) then (impl_IsWhole.j0 k (l0_1.length : Int) true a0_0 l0_1) else (if a0_0 > 1 then (impl_IsWhole.j0 k (l0_1.length : Int) true a0_0 l0_1) else (impl_IsWhole.j0 k (l0_1.length : Int) ((a0_0 == 0) != ((l0_1.length : Int) == 0)) a0_0 l0_1)))
set_option maxHeartbeats 8000000 in
set_option maxRecDepth 100000 in
theorem impl_IsWhole.calls (k : Nat) (a0_0 : Int) (A0_1 : Option Addr) (c0_1 : Nat) (l0_1 : List Int) (r : Bool) (w : World) (hr0_1 : Kd.C (Kd.int .i64) w A0_1 l0_1.length l0_1) (hc0_1 : l0_1.length ≤ c0_1) (h : impl_IsWhole.f k a0_0 l0_1 = some r) :
  Calls Tryz.prog 258 #[.agg #[.int .i64 a0_0, .slice A0_1 l0_1.length c0_1]] w fun e w' => e = .returned (.bool r) ∧ Below w.heap.size w w' := by
 have hu54 := Tryz.underlying54
 have HR0_1 := As_.mk hr0_1
 have HC0_1 := As_.mk hc0_1
 clear hr0_1 hc0_1
 have HB := As_.mk (Below.refl w.heap.size w)
 have H : (if (l0_1.length : Int) > 100 then (impl_IsWhole.j0 k (l0_1.length : Int) true a0_0 l0_1) else (if a0_0 < (-1) then (impl_IsWhole.j0 k (l0_1.length : Int) true a0_0 l0_1) else (if a0_0 > 1 then (impl_IsWhole.j0 k (l0_1.length : Int) true a0_0 l0_1) else (impl_IsWhole.j0 k (l0_1.length : Int) ((a0_0 == 0) != ((l0_1.length : Int) == 0)) a0_0 l0_1)))) = some r := h
 clear h
 have HC2 := As_.mk H
 clear H
 go_enter Tryz.func258, Tryz.ntmps258
 go_upto_region 2 with (first | ((with_reducible refine gate_dst (N := 1) rfl ?_); refine box_event ?hg (N := 1) ?hd (cs := #[.int .i64 a0_0, .slice A0_1 l0_1.length c0_1]) (t := 54) ?hr ?_; (case hd => rfl); (case hg => rfl); (case hr => first | (go_simp; done) | (go_simp; rfl)); intro gb420 hg w3 hbox hb; have n0_ := As_.mk (bp_ (by repeat (first | (with_reducible first | exact HB.out | apply ba_ | apply pN_ | apply bd_) | exact HB.out)) hb); have n1_ := As_.mk (hbox); have n2_ := As_.mk ((by rw [hg]; exact (bz_ (by repeat (first | (with_reducible first | exact HB.out | apply ba_ | apply pN_ | apply bd_) | exact HB.out))) : w.heap.size ≤ gb420)); have n3_ := As_.mk ((by rw [hg]; exact (bz_ (by repeat (first | (with_reducible first | exact HB.out | apply ba_ | apply pN_ | apply bd_) | exact HB.out))) : w.heap.size ≤ gb420)); clear HB; have HB := n0_; have BK420 := n1_; have GW420 := n2_; have GE420 := n3_; clear n0_ n1_ n2_ n3_; clear hb hbox hg; have hcz4_0 : w3.cell? ⟨gb420, 0, none⟩ = some (.int .i64 a0_0) := (kc_ BK420.out 0).trans rfl; have hcz4_1 : w3.cell? ⟨gb420, 1, none⟩ = some (.slice A0_1 l0_1.length c0_1) := (kc_ BK420.out 1).trans rfl; have hfz4_0 := kf_ BK420.out 0; have hfz4_1 := kf_ BK420.out 1))
 (try simp only [Act.put, List.setIfInBounds_toArray, List.set_cons_zero, List.set_cons_succ])
 go_cut [28] (fun v28 wc => ∃ (kq : Nat) (x28_1 : Bool), v28 = .bool x28_1 ∧ As_ (impl_IsWhole.j0 kq (l0_1.length : Int) x28_1 a0_0 l0_1 = some r) ∧ As_ (kq ≤ k) ∧ As_ (wc.heap[gb420]? = some (.cells #[.int .i64 a0_0, (.slice A0_1 l0_1.length c0_1)] 54 (0, 0))) ∧ As_ (Below w.heap.size w wc))
 case first =>
  have H := HC2.out
  clear HC2
  by_cases c5 : (l0_1.length : Int) > 100
  ·rw [if_pos c5] at H
   have c5b0 : decide (100 < (l0_1.length : Int)) = true := decide_eq_true c5
   have c5b1 : decide (100 < l0_1.length) = true := decide_eq_true (by omega)
   clear c5
   (first | rw [c5b0] | (simp only [i64_w, i32_w]; rw [c5b0]) | skip)
   have H' := As_.mk H
   clear H
   go_wp2
   go_meet
   case rel => exact ⟨_, (true), (by first | rfl | (simp; done) | (simp [*]; done)), H', ⟨by first | omega | exact Nat.le_refl _⟩, ⟨by (with_reducible repeat (first | refine kN_ ?_ _ | refine kd_ ?_ | refine ka_ ?_ _)); exact BK420.out⟩, ⟨by repeat (first | (with_reducible first | exact HB.out | apply ba_ | apply pN_ | apply bd_ | refine bs_ ?_ GE420.out) | exact HB.out)⟩⟩
  ·rw [if_neg c5] at H
   have c5b0 : decide (100 < (l0_1.length : Int)) = false := decide_eq_false c5
   have c5b1 : decide (100 < l0_1.length) = false := decide_eq_false (by omega)
   clear c5
   (first | rw [c5b0] | (simp only [i64_w, i32_w]; rw [c5b0]) | skip)
   by_cases c6 : a0_0 < (-1)
   ·rw [if_pos c6] at H
    have c6b0 : decide (a0_0 < (-1)) = true := decide_eq_true c6
    clear c6
    have H' := As_.mk H
    clear H
    have hcz7_0 : w3.cell? ⟨gb420, 0, none⟩ = some (.int .i64 a0_0) := (kc_ BK420.out 0).trans rfl
    have hcz7_1 : w3.cell? ⟨gb420, 1, none⟩ = some (.slice A0_1 l0_1.length c0_1) := (kc_ BK420.out 1).trans rfl
    have hfz7_0 := kf_ BK420.out 0
    have hfz7_1 := kf_ BK420.out 1
    go_wp2
    go_meet
    case rel => exact ⟨_, (true), (by first | rfl | (simp; done) | (simp [*]; done)), H', ⟨by first | omega | exact Nat.le_refl _⟩, ⟨by (with_reducible repeat (first | refine kN_ ?_ _ | refine kd_ ?_ | refine ka_ ?_ _)); exact BK420.out⟩, ⟨by repeat (first | (with_reducible first | exact HB.out | apply ba_ | apply pN_ | apply bd_ | refine bs_ ?_ GE420.out) | exact HB.out)⟩⟩
   ·rw [if_neg c6] at H
    have c6b0 : decide (a0_0 < (-1)) = false := decide_eq_false c6
    clear c6
    by_cases c8 : a0_0 > 1
    ·rw [if_pos c8] at H
     have c8b0 : decide (1 < a0_0) = true := decide_eq_true c8
     clear c8
     have H' := As_.mk H
     clear H
     have hcz9_0 : w3.cell? ⟨gb420, 0, none⟩ = some (.int .i64 a0_0) := (kc_ BK420.out 0).trans rfl
     have hcz9_1 : w3.cell? ⟨gb420, 1, none⟩ = some (.slice A0_1 l0_1.length c0_1) := (kc_ BK420.out 1).trans rfl
     have hfz9_0 := kf_ BK420.out 0
     have hfz9_1 := kf_ BK420.out 1
     go_wp2
     go_meet
     case rel => exact ⟨_, (true), (by first | rfl | (simp; done) | (simp [*]; done)), H', ⟨by first | omega | exact Nat.le_refl _⟩, ⟨by (with_reducible repeat (first | refine kN_ ?_ _ | refine kd_ ?_ | refine ka_ ?_ _)); exact BK420.out⟩, ⟨by repeat (first | (with_reducible first | exact HB.out | apply ba_ | apply pN_ | apply bd_ | refine bs_ ?_ GE420.out) | exact HB.out)⟩⟩
    ·rw [if_neg c8] at H
     have c8b0 : decide (1 < a0_0) = false := decide_eq_false c8
     clear c8
     have H' := As_.mk H
     clear H
     have hcz10_0 : w3.cell? ⟨gb420, 0, none⟩ = some (.int .i64 a0_0) := (kc_ BK420.out 0).trans rfl
     have hcz10_1 : w3.cell? ⟨gb420, 1, none⟩ = some (.slice A0_1 l0_1.length c0_1) := (kc_ BK420.out 1).trans rfl
     have hfz10_0 := kf_ BK420.out 0
     have hfz10_1 := kf_ BK420.out 1
     go_wp2
     go_meet
     case rel => exact ⟨_, (((a0_0 == 0) != ((l0_1.length : Int) == 0))), (by first | rfl | (simp; done) | (simp [*]; done)), H', ⟨by first | omega | exact Nat.le_refl _⟩, ⟨by (with_reducible repeat (first | refine kN_ ?_ _ | refine kd_ ?_ | refine ka_ ?_ _)); exact BK420.out⟩, ⟨by repeat (first | (with_reducible first | exact HB.out | apply ba_ | apply pN_ | apply bd_ | refine bs_ ?_ GE420.out) | exact HB.out)⟩⟩
 case rest =>
  clear HC2
  try clear c2
  try clear p2
  try clear c5
  try clear c5b0
  try clear c5b1
  try clear c6
  try clear c6b0
  try clear c8
  try clear c8b0
  try clear hcz10_0
  try clear hcz10_1
  try clear hcz4_0
  try clear hcz4_1
  try clear hcz7_0
  try clear hcz7_1
  try clear hcz9_0
  try clear hcz9_1
  try clear hfz10_0
  try clear hfz10_1
  try clear hfz4_0
  try clear hfz4_1
  try clear hfz7_0
  try clear hfz7_1
  try clear hfz9_0
  try clear hfz9_1
  obtain ⟨kq, x28_1, rfl, HA, HJ1, BK420, HB⟩ := hcut
  cases kq with
  | zero => exact absurd HA.out (by simp [impl_IsWhole.j0])
  | succ kj1 =>
   have H := HA.out
   clear HA
   simp only [impl_IsWhole.j0] at H
   by_cases c11 : x28_1 = true
   ·subst c11
    have H1 : (some false) = some r := by rw [if_pos rfl] at H; exact H
    clear H
    have H := H1
    clear H1
    obtain rfl := Option.some.inj H
    go_wp2
    go_ret
    exact ⟨by first | rfl | (simp [eN_, eS_] <;> rfl) | (simp [*, eN_, eS_] <;> rfl), by repeat (first | (with_reducible first | exact HB.out | apply ba_ | apply pN_ | apply bd_ | refine bs_ ?_ GE420.out) | exact HB.out)⟩
   ·replace c11 := Bool.eq_false_iff.mpr c11
    subst c11
    have H1 : (impl_IsWhole.l0 kj1 (l0_1.length : Int) l0_1 (l0_1.length : Int) 0 a0_0 l0_1) = some r := by rw [if_neg (show ¬ (false = true) by decide)] at H; exact H
    clear H
    have H := H1
    clear H1
    have H' := As_.mk H
    clear H
    have hcz12_0 : wc.cell? ⟨gb420, 0, none⟩ = some (.int .i64 a0_0) := (kc_ BK420.out 0).trans rfl
    have hcz12_1 : wc.cell? ⟨gb420, 1, none⟩ = some (.slice A0_1 l0_1.length c0_1) := (kc_ BK420.out 1).trans rfl
    have hfz12_0 := kf_ BK420.out 0
    have hfz12_1 := kf_ BK420.out 1
    go_wp2
    go_loopg [32] kj1 (fun kq v32 w' => ∃ (x32_2 : Int), v32 = .int .i64 x32_2 ∧ As_ (impl_IsWhole.l0 kq (l0_1.length : Int) l0_1 (l0_1.length : Int) x32_2 a0_0 l0_1 = some r) ∧ As_ (kq ≤ kj1) ∧ As_ (w'.heap[gb420]? = some (.cells #[.int .i64 a0_0, (.slice A0_1 l0_1.length c0_1)] 54 (0, 0))) ∧ As_ (Below w.heap.size w w'))
    case atStart => exact ⟨(0), (by first | rfl | (simp; done) | (simp [*]; done)), H', ⟨Nat.le_refl _⟩, ⟨by (with_reducible repeat (first | refine kN_ ?_ _ | refine kd_ ?_ | refine ka_ ?_ _)); exact BK420.out⟩, ⟨by repeat (first | (with_reducible first | exact HB.out | apply ba_ | apply pN_ | apply bd_ | refine bs_ ?_ GE420.out) | exact HB.out)⟩⟩
    case round =>
     clear H'
     try clear c1
     try clear c2
     try clear p2
     try clear c5
     try clear c5b0
     try clear c5b1
     try clear c6
     try clear c6b0
     try clear c8
     try clear c8b0
     try clear c11
     try clear hcz10_0
     try clear hcz10_1
     try clear hcz12_0
     try clear hcz12_1
     try clear hcz4_0
     try clear hcz4_1
     try clear hcz7_0
     try clear hcz7_1
     try clear hcz9_0
     try clear hcz9_1
     try clear hfz10_0
     try clear hfz10_1
     try clear hfz12_0
     try clear hfz12_1
     try clear hfz4_0
     try clear hfz4_1
     try clear hfz7_0
     try clear hfz7_1
     try clear hfz9_0
     try clear hfz9_1
     try clear p2
     obtain ⟨x32_2, rfl, HA, HK2, BK420, HB⟩ := hrel
     cases gk with
     | zero => exact absurd HA.out (by simp [impl_IsWhole.l0])
     | succ k2 =>
      have H := HA.out
      clear HA
      simp only [impl_IsWhole.l0] at H
      by_cases c13 : x32_2 < (l0_1.length : Int)
      ·rw [if_pos c13] at H
       have c13b0 : decide (x32_2 < (l0_1.length : Int)) = true := decide_eq_true c13
       clear c13
       by_cases c14 : 0 ≤ x32_2
       ·rw [if_pos c14] at H
        have c14b0 : decide (0 ≤ x32_2) = true := decide_eq_true c14
        clear c14
        by_cases c15 : x32_2 < (l0_1.length : Int)
        ·rw [if_pos c15] at H
         have c15b0 : decide (x32_2 < (l0_1.length : Int)) = true := decide_eq_true c15
         clear c15
         by_cases c16 : (rd l0_1 x32_2) < 0
         ·rw [if_pos c16] at H
          have c16b0 : decide ((rd l0_1 x32_2) < 0) = true := decide_eq_true c16
          clear c16
          obtain rfl := Option.some.inj H
          have p421 : 0 ≤ (x32_2 : Int) := of_decide_eq_true (by first | (with_reducible assumption) | assumption)
          have q421 : x32_2 < (l0_1.length : Int) := of_decide_eq_true (by first | (with_reducible assumption) | assumption)
          obtain ⟨ad421, e421, hx421_0⟩ := Kd.at_int HR0_1.out x32_2 p421 q421
          cases e421
          replace hx421_0 := (HB.out.cell (World.block_lt_of_cell? w _ hx421_0)).trans hx421_0
          replace p421 := eq_true p421
          replace q421 := eq_true q421
          go_wp2
          go_ret
          exact ⟨by first | rfl | (simp [eN_, eS_] <;> rfl) | (simp [*, eN_, eS_] <;> rfl), by repeat (first | (with_reducible first | exact HB.out | apply ba_ | apply pN_ | apply bd_ | refine bs_ ?_ GE420.out) | exact HB.out)⟩
         ·rw [if_neg c16] at H
          have c16b0 : decide ((rd l0_1 x32_2) < 0) = false := decide_eq_false c16
          clear c16
          by_cases c17 : (rd l0_1 x32_2) > 16777215
          ·rw [if_pos c17] at H
           have c17b0 : decide (16777215 < (rd l0_1 x32_2)) = true := decide_eq_true c17
           clear c17
           obtain rfl := Option.some.inj H
           have p421 : 0 ≤ (x32_2 : Int) := of_decide_eq_true (by first | (with_reducible assumption) | assumption)
           have q421 : x32_2 < (l0_1.length : Int) := of_decide_eq_true (by first | (with_reducible assumption) | assumption)
           obtain ⟨ad421, e421, hx421_0⟩ := Kd.at_int HR0_1.out x32_2 p421 q421
           cases e421
           replace hx421_0 := (HB.out.cell (World.block_lt_of_cell? w _ hx421_0)).trans hx421_0
           replace p421 := eq_true p421
           replace q421 := eq_true q421
           go_wp2
           go_ret
           exact ⟨by first | rfl | (simp [eN_, eS_] <;> rfl) | (simp [*, eN_, eS_] <;> rfl), by repeat (first | (with_reducible first | exact HB.out | apply ba_ | apply pN_ | apply bd_ | refine bs_ ?_ GE420.out) | exact HB.out)⟩
          ·rw [if_neg c17] at H
           have c17b0 : decide (16777215 < (rd l0_1 x32_2)) = false := decide_eq_false c17
           clear c17
           have H' := As_.mk H
           clear H
           have p421 : 0 ≤ (x32_2 : Int) := of_decide_eq_true (by first | (with_reducible assumption) | assumption)
           have q421 : x32_2 < (l0_1.length : Int) := of_decide_eq_true (by first | (with_reducible assumption) | assumption)
           obtain ⟨ad421, e421, hx421_0⟩ := Kd.at_int HR0_1.out x32_2 p421 q421
           cases e421
           replace hx421_0 := (HB.out.cell (World.block_lt_of_cell? w _ hx421_0)).trans hx421_0
           replace p421 := eq_true p421
           replace q421 := eq_true q421
           go_wp2
           go_roundg k2
           case measure => have := HJ1.out; have := HK2.out; omega
           case rel => exact ⟨(wrap64 (x32_2 + 1)), (by first | rfl | (simp; done) | (simp [*]; done)), H', ⟨by have := HJ1.out; have := HK2.out; omega⟩, ⟨by (with_reducible repeat (first | refine kN_ ?_ _ | refine kd_ ?_ | refine ka_ ?_ _)); exact BK420.out⟩, ⟨by repeat (first | (with_reducible first | exact HB.out | apply ba_ | apply pN_ | apply bd_ | refine bs_ ?_ GE420.out) | exact HB.out)⟩⟩
        ·rw [if_neg c15] at H
         exact absurd H (by simp)
       ·rw [if_neg c14] at H
        exact absurd H (by simp)
      ·rw [if_neg c13] at H
       have c13b0 : decide (x32_2 < (l0_1.length : Int)) = false := decide_eq_false c13
       clear c13
       by_cases c18 : (l0_1.length : Int) = 0
       ·rw [if_pos c18] at H
        have c18b0 : ((l0_1.length : Int) == 0) = true := beq_iff_eq.mpr c18
        have c18b1 : ((l0_1.length : Int) != 0) = false := bne_eq_false_iff_eq.mpr c18
        clear c18
        obtain rfl := Option.some.inj H
        go_wp2
        go_ret
        exact ⟨by first | rfl | (simp [eN_, eS_] <;> rfl) | (simp [*, eN_, eS_] <;> rfl), by repeat (first | (with_reducible first | exact HB.out | apply ba_ | apply pN_ | apply bd_ | refine bs_ ?_ GE420.out) | exact HB.out)⟩
       ·rw [if_neg c18] at H
        have c18b0 : ((l0_1.length : Int) == 0) = false := beq_eq_false_iff_ne.mpr c18
        have c18b1 : ((l0_1.length : Int) != 0) = true := bne_iff_ne.mpr c18
        have c18b2 : ¬ (l0_1 = []) := fun h_ => c18 (by rw [h_]; rfl)
        obtain ⟨ji19, hji19⟩ : ∃ j_ : Int, (wrap64 ((l0_1.length : Int) - 1)) = j_ := ⟨_, rfl⟩
        replace H : (if 0 ≤ (ji19) then (if (ji19) < (l0_1.length : Int) then (some ((rd l0_1 (ji19)) != 0)) else (none)) else (none)) = some r := by first | (rw [hji19] at H; exact H) | (simp only [hji19] at H ⊢; exact H)
        have hji19w : (IntKind.i64.wrap ((l0_1.length : Int) - 1)) = ji19 := (i64_w _).trans hji19
        by_cases c20 : 0 ≤ (ji19)
        ·rw [if_pos c20] at H
         have c20b0 : decide (0 ≤ (ji19)) = true := decide_eq_true c20
         clear c20
         by_cases c21 : (ji19) < (l0_1.length : Int)
         ·rw [if_pos c21] at H
          have c21b0 : decide ((ji19) < (l0_1.length : Int)) = true := decide_eq_true c21
          clear c21
          obtain rfl := Option.some.inj H
          have hcz22_0 : wr.cell? ⟨gb420, 0, none⟩ = some (.int .i64 a0_0) := (kc_ BK420.out 0).trans rfl
          have hcz22_1 : wr.cell? ⟨gb420, 1, none⟩ = some (.slice A0_1 l0_1.length c0_1) := (kc_ BK420.out 1).trans rfl
          have hfz22_0 := kf_ BK420.out 0
          have hfz22_1 := kf_ BK420.out 1
          have p422 : 0 ≤ ((ji19) : Int) := of_decide_eq_true (by first | (with_reducible assumption) | assumption)
          have q422 : (ji19) < (l0_1.length : Int) := of_decide_eq_true (by first | (with_reducible assumption) | assumption)
          obtain ⟨ad422, e422, hx422_0⟩ := Kd.at_int HR0_1.out (ji19) p422 q422
          cases e422
          replace hx422_0 := (HB.out.cell (World.block_lt_of_cell? w _ hx422_0)).trans hx422_0
          replace p422 := eq_true p422
          replace q422 := eq_true q422
          go_wp2
          go_ret
          exact ⟨by first | rfl | (simp [eN_, eS_] <;> rfl) | (simp only [← hji19]; first | rfl | (simp [eN_, eS_] <;> rfl)) | (simp [*, eN_, eS_] <;> rfl), by repeat (first | (with_reducible first | exact HB.out | apply ba_ | apply pN_ | apply bd_ | refine bs_ ?_ GE420.out) | exact HB.out)⟩
         ·rw [if_neg c21] at H
          exact absurd H (by simp)
        ·rw [if_neg c20] at H
         exact absurd H (by simp)
def impl_IsDyadic.f (k : Nat) (a0_0 : Int) (l0_1 : List Int) (a0_2 : Int) : Option (Bool) := (impl_IsWhole.f k a0_0 l0_1).bind fun t424 => (if t424 = true then (if a0_0 = 0 then (some (a0_2 == 0)) else (if 0 < (l0_1.length : Int) then (if (Int.tmod (rd l0_1 0) 2) = 1 then (if a0_2 ≥ (-3000) then (some (decide (a0_2 ≤ 3000))) else (some false)) else (some false)) else (none))) else (some false))
set_option maxHeartbeats 8000000 in
set_option maxRecDepth 100000 in
theorem impl_IsDyadic.calls (k : Nat) (a0_0 : Int) (A0_1 : Option Addr) (c0_1 : Nat) (l0_1 : List Int) (a0_2 : Int) (r : Bool) (w : World) (hr0_1 : Kd.C (Kd.int .i64) w A0_1 l0_1.length l0_1) (hc0_1 : l0_1.length ≤ c0_1) (h : impl_IsDyadic.f k a0_0 l0_1 a0_2 = some r) :
  Calls Tryz.prog 224 #[.agg #[.int .i64 a0_0, .slice A0_1 l0_1.length c0_1, .int .i64 a0_2]] w fun e w' => e = .returned (.bool r) ∧ Below w.heap.size w w' := by
 have hu56 := Tryz.underlying56
 have hu54 := Tryz.underlying54
 have HR0_1 := As_.mk hr0_1
 have HC0_1 := As_.mk hc0_1
 clear hr0_1 hc0_1
 have HB := As_.mk (Below.refl w.heap.size w)
 have H : ((impl_IsWhole.f k a0_0 l0_1).bind fun t424 => (if t424 = true then (if a0_0 = 0 then (some (a0_2 == 0)) else (if 0 < (l0_1.length : Int) then (if (Int.tmod (rd l0_1 0) 2) = 1 then (if a0_2 ≥ (-3000) then (some (decide (a0_2 ≤ 3000))) else (some false)) else (some false)) else (none))) else (some false))) = some r := h
 clear h
 replace H := Option.bind_eq_some_iff.mp H
 obtain ⟨t424, A20, H⟩ := H
 replace H : (if t424 = true then (if a0_0 = 0 then (some (a0_2 == 0)) else (if 0 < (l0_1.length : Int) then (if (Int.tmod (rd l0_1 0) 2) = 1 then (if a0_2 ≥ (-3000) then (some (decide (a0_2 ≤ 3000))) else (some false)) else (some false)) else (none))) else (some false)) = some r := H
 have A2 := As_.mk A20
 clear A20
 by_cases c3 : t424 = true
 ·subst c3
  have H1 : (if a0_0 = 0 then (some (a0_2 == 0)) else (if 0 < (l0_1.length : Int) then (if (Int.tmod (rd l0_1 0) 2) = 1 then (if a0_2 ≥ (-3000) then (some (decide (a0_2 ≤ 3000))) else (some false)) else (some false)) else (none))) = some r := by rw [if_pos rfl] at H; exact H
  clear H
  have H := H1
  clear H1
  by_cases c4 : a0_0 = 0
  ·rw [if_pos c4] at H
   have c4b0 : (a0_0 == 0) = true := beq_iff_eq.mpr c4
   have c4b1 : (a0_0 != 0) = false := bne_eq_false_iff_eq.mpr c4
   clear c4
   obtain rfl := Option.some.inj H
   go_enter Tryz.func224, Tryz.ntmps224
   go_wp2_with (first | ((with_reducible refine gate_dst (N := 1) rfl ?_); refine box_event ?hg (N := 1) ?hd (cs := #[.int .i64 a0_0, .slice A0_1 l0_1.length c0_1, .int .i64 a0_2]) (t := 56) ?hr ?_; (case hd => rfl); (case hg => rfl); (case hr => first | (go_simp; done) | (go_simp; rfl)); intro gb423 hg w5 hbox hb; have n0_ := As_.mk (bp_ (by repeat (first | (with_reducible first | exact HB.out | apply ba_ | apply pN_ | apply bd_) | exact HB.out)) hb); have n1_ := As_.mk (hbox); have n2_ := As_.mk ((by rw [hg]; exact (bz_ (by repeat (first | (with_reducible first | exact HB.out | apply ba_ | apply pN_ | apply bd_) | exact HB.out))) : w.heap.size ≤ gb423)); have n3_ := As_.mk ((by rw [hg]; exact (bz_ (by repeat (first | (with_reducible first | exact HB.out | apply ba_ | apply pN_ | apply bd_) | exact HB.out))) : w.heap.size ≤ gb423)); clear HB; have HB := n0_; have BK423 := n1_; have GW423 := n2_; have GE423 := n3_; clear n0_ n1_ n2_ n3_; clear hb hbox hg; have hcz6_0 : w5.cell? ⟨gb423, 0, none⟩ = some (.int .i64 a0_0) := (kc_ BK423.out 0).trans rfl; have hcz6_1 : w5.cell? ⟨gb423, 1, none⟩ = some (.slice A0_1 l0_1.length c0_1) := (kc_ BK423.out 1).trans rfl; have hcz6_2 : w5.cell? ⟨gb423, 2, none⟩ = some (.int .i64 a0_2) := (kc_ BK423.out 2).trans rfl; have hfz6_0 := kf_ BK423.out 0; have hfz6_1 := kf_ BK423.out 1; have hfz6_2 := kf_ BK423.out 2) | ((with_reducible refine gate_callee (f := 258) rfl ?_); refine goesL_ (some 5) rfl rfl Tryz.func258 (by kernel_rfl) rfl #[.agg #[.int .i64 a0_0, .slice A0_1 l0_1.length c0_1]] rfl (by (try simp only [List.map_toArray, List.map_cons, List.map_nil]); first | done | rfl | (simp only [List.length_drop, List.length_take]; rfl)) ?_; (with_reducible refine (impl_IsWhole.calls k a0_0 _ _ l0_1 true _ ?side1 ?side2 A2.out).mono ?_); (case side1 => repeat (first | exact (Kd.C_below HR0_1.out HB.out) | (with_reducible refine Kd.C_alloc ?_ _) | (with_reducible refine Kd.C_drewN ?_ _) | (with_reducible refine Kd.C_drew ?_))); (case side2 => exact HC0_1.out); rintro e w7 ⟨rfl, hb⟩; refine ⟨_, rfl, ?_⟩; have n0_ := As_.mk (kb_ (g := gb423) (o := .cells #[.int .i64 a0_0, .slice A0_1 l0_1.length c0_1, .int .i64 a0_2] 56 (0, 0)) (by (with_reducible repeat (first | refine kN_ ?_ _ | refine kd_ ?_ | refine ka_ ?_ _)); exact BK423.out) hb); have n1_ := As_.mk (bp_ (by repeat (first | (with_reducible first | exact HB.out | apply ba_ | apply pN_ | apply bd_ | refine bs_ ?_ GE423.out) | exact HB.out)) hb); clear BK423; clear HB; have BK423 := n0_; have HB := n1_; clear n0_ n1_; (try clear hb); (try clear hb2); (try clear hk); (try clear hi); have hcz8_0 : w7.cell? ⟨gb423, 0, none⟩ = some (.int .i64 a0_0) := (kc_ BK423.out 0).trans rfl; have hcz8_1 : w7.cell? ⟨gb423, 1, none⟩ = some (.slice A0_1 l0_1.length c0_1) := (kc_ BK423.out 1).trans rfl; have hcz8_2 : w7.cell? ⟨gb423, 2, none⟩ = some (.int .i64 a0_2) := (kc_ BK423.out 2).trans rfl; have hfz8_0 := kf_ BK423.out 0; have hfz8_1 := kf_ BK423.out 1; have hfz8_2 := kf_ BK423.out 2))
   go_ret
   exact ⟨by first | rfl | (simp [eN_, eS_] <;> rfl) | (simp [*, eN_, eS_] <;> rfl), by repeat (first | (with_reducible first | exact HB.out | apply ba_ | apply pN_ | apply bd_ | refine bs_ ?_ GE423.out) | exact HB.out)⟩
  ·rw [if_neg c4] at H
   have c4b0 : (a0_0 == 0) = false := beq_eq_false_iff_ne.mpr c4
   have c4b1 : (a0_0 != 0) = true := bne_iff_ne.mpr c4
   by_cases c9 : 0 < (l0_1.length : Int)
   ·rw [if_pos c9] at H
    have c9b0 : decide (0 < (l0_1.length : Int)) = true := decide_eq_true c9
    have c9b1 : decide (0 < l0_1.length) = true := decide_eq_true (by omega)
    clear c9
    by_cases c10 : (Int.tmod (rd l0_1 0) 2) = 1
    ·rw [if_pos c10] at H
     have c10b0 : ((Int.tmod (rd l0_1 0) 2) == 1) = true := beq_iff_eq.mpr c10
     have c10b1 : ((Int.tmod (rd l0_1 0) 2) != 1) = false := bne_eq_false_iff_eq.mpr c10
     clear c10
     by_cases c11 : a0_2 ≥ (-3000)
     ·rw [if_pos c11] at H
      have c11b0 : decide ((-3000) ≤ a0_2) = true := decide_eq_true c11
      clear c11
      obtain rfl := Option.some.inj H
      go_enter Tryz.func224, Tryz.ntmps224
      go_wp2_with (first | ((with_reducible refine gate_dst (N := 1) rfl ?_); refine box_event ?hg (N := 1) ?hd (cs := #[.int .i64 a0_0, .slice A0_1 l0_1.length c0_1, .int .i64 a0_2]) (t := 56) ?hr ?_; (case hd => rfl); (case hg => rfl); (case hr => first | (go_simp; done) | (go_simp; rfl)); intro gb423 hg w12 hbox hb; have n0_ := As_.mk (bp_ (by repeat (first | (with_reducible first | exact HB.out | apply ba_ | apply pN_ | apply bd_) | exact HB.out)) hb); have n1_ := As_.mk (hbox); have n2_ := As_.mk ((by rw [hg]; exact (bz_ (by repeat (first | (with_reducible first | exact HB.out | apply ba_ | apply pN_ | apply bd_) | exact HB.out))) : w.heap.size ≤ gb423)); have n3_ := As_.mk ((by rw [hg]; exact (bz_ (by repeat (first | (with_reducible first | exact HB.out | apply ba_ | apply pN_ | apply bd_) | exact HB.out))) : w.heap.size ≤ gb423)); clear HB; have HB := n0_; have BK423 := n1_; have GW423 := n2_; have GE423 := n3_; clear n0_ n1_ n2_ n3_; clear hb hbox hg; have hcz13_0 : w12.cell? ⟨gb423, 0, none⟩ = some (.int .i64 a0_0) := (kc_ BK423.out 0).trans rfl; have hcz13_1 : w12.cell? ⟨gb423, 1, none⟩ = some (.slice A0_1 l0_1.length c0_1) := (kc_ BK423.out 1).trans rfl; have hcz13_2 : w12.cell? ⟨gb423, 2, none⟩ = some (.int .i64 a0_2) := (kc_ BK423.out 2).trans rfl; have hfz13_0 := kf_ BK423.out 0; have hfz13_1 := kf_ BK423.out 1; have hfz13_2 := kf_ BK423.out 2) | ((with_reducible refine gate_callee (f := 258) rfl ?_); refine goesL_ (some 5) rfl rfl Tryz.func258 (by kernel_rfl) rfl #[.agg #[.int .i64 a0_0, .slice A0_1 l0_1.length c0_1]] rfl (by (try simp only [List.map_toArray, List.map_cons, List.map_nil]); first | done | rfl | (simp only [List.length_drop, List.length_take]; rfl)) ?_; (with_reducible refine (impl_IsWhole.calls k a0_0 _ _ l0_1 true _ ?side1 ?side2 A2.out).mono ?_); (case side1 => repeat (first | exact (Kd.C_below HR0_1.out HB.out) | (with_reducible refine Kd.C_alloc ?_ _) | (with_reducible refine Kd.C_drewN ?_ _) | (with_reducible refine Kd.C_drew ?_))); (case side2 => exact HC0_1.out); rintro e w14 ⟨rfl, hb⟩; refine ⟨_, rfl, ?_⟩; have n0_ := As_.mk (kb_ (g := gb423) (o := .cells #[.int .i64 a0_0, .slice A0_1 l0_1.length c0_1, .int .i64 a0_2] 56 (0, 0)) (by (with_reducible repeat (first | refine kN_ ?_ _ | refine kd_ ?_ | refine ka_ ?_ _)); exact BK423.out) hb); have n1_ := As_.mk (bp_ (by repeat (first | (with_reducible first | exact HB.out | apply ba_ | apply pN_ | apply bd_ | refine bs_ ?_ GE423.out) | exact HB.out)) hb); clear BK423; clear HB; have BK423 := n0_; have HB := n1_; clear n0_ n1_; (try clear hb); (try clear hb2); (try clear hk); (try clear hi); have hcz15_0 : w14.cell? ⟨gb423, 0, none⟩ = some (.int .i64 a0_0) := (kc_ BK423.out 0).trans rfl; have hcz15_1 : w14.cell? ⟨gb423, 1, none⟩ = some (.slice A0_1 l0_1.length c0_1) := (kc_ BK423.out 1).trans rfl; have hcz15_2 : w14.cell? ⟨gb423, 2, none⟩ = some (.int .i64 a0_2) := (kc_ BK423.out 2).trans rfl; have hfz15_0 := kf_ BK423.out 0; have hfz15_1 := kf_ BK423.out 1; have hfz15_2 := kf_ BK423.out 2; have p425 : 0 ≤ (0 : Int) := (by omega); have q425 : 0 < (l0_1.length : Int) := of_decide_eq_true (by first | (with_reducible assumption) | assumption); obtain ⟨ad425, e425, hx425_0⟩ := Kd.at_int HR0_1.out 0 p425 q425; cases e425; have qi425 : (0 < l0_1.length) = True := eq_true (by omega); (try rw [show ((0 : Int)).toNat = 0 from rfl] at hx425_0); (try rw [Addr.add_zero'] at hx425_0); replace hx425_0 := (HB.out.cell (World.block_lt_of_cell? w _ hx425_0)).trans hx425_0; replace p425 := eq_true p425; replace q425 := eq_true q425))
      go_ret
      exact ⟨by first | rfl | (simp [eN_, eS_] <;> rfl) | (simp [*, eN_, eS_] <;> rfl), by repeat (first | (with_reducible first | exact HB.out | apply ba_ | apply pN_ | apply bd_ | refine bs_ ?_ GE423.out) | exact HB.out)⟩
     ·rw [if_neg c11] at H
      have c11b0 : decide ((-3000) ≤ a0_2) = false := decide_eq_false c11
      clear c11
      obtain rfl := Option.some.inj H
      go_enter Tryz.func224, Tryz.ntmps224
      go_wp2_with (first | ((with_reducible refine gate_dst (N := 1) rfl ?_); refine box_event ?hg (N := 1) ?hd (cs := #[.int .i64 a0_0, .slice A0_1 l0_1.length c0_1, .int .i64 a0_2]) (t := 56) ?hr ?_; (case hd => rfl); (case hg => rfl); (case hr => first | (go_simp; done) | (go_simp; rfl)); intro gb423 hg w16 hbox hb; have n0_ := As_.mk (bp_ (by repeat (first | (with_reducible first | exact HB.out | apply ba_ | apply pN_ | apply bd_) | exact HB.out)) hb); have n1_ := As_.mk (hbox); have n2_ := As_.mk ((by rw [hg]; exact (bz_ (by repeat (first | (with_reducible first | exact HB.out | apply ba_ | apply pN_ | apply bd_) | exact HB.out))) : w.heap.size ≤ gb423)); have n3_ := As_.mk ((by rw [hg]; exact (bz_ (by repeat (first | (with_reducible first | exact HB.out | apply ba_ | apply pN_ | apply bd_) | exact HB.out))) : w.heap.size ≤ gb423)); clear HB; have HB := n0_; have BK423 := n1_; have GW423 := n2_; have GE423 := n3_; clear n0_ n1_ n2_ n3_; clear hb hbox hg; have hcz17_0 : w16.cell? ⟨gb423, 0, none⟩ = some (.int .i64 a0_0) := (kc_ BK423.out 0).trans rfl; have hcz17_1 : w16.cell? ⟨gb423, 1, none⟩ = some (.slice A0_1 l0_1.length c0_1) := (kc_ BK423.out 1).trans rfl; have hcz17_2 : w16.cell? ⟨gb423, 2, none⟩ = some (.int .i64 a0_2) := (kc_ BK423.out 2).trans rfl; have hfz17_0 := kf_ BK423.out 0; have hfz17_1 := kf_ BK423.out 1; have hfz17_2 := kf_ BK423.out 2) | ((with_reducible refine gate_callee (f := 258) rfl ?_); refine goesL_ (some 5) rfl rfl Tryz.func258 (by kernel_rfl) rfl #[.agg #[.int .i64 a0_0, .slice A0_1 l0_1.length c0_1]] rfl (by (try simp only [List.map_toArray, List.map_cons, List.map_nil]); first | done | rfl | (simp only [List.length_drop, List.length_take]; rfl)) ?_; (with_reducible refine (impl_IsWhole.calls k a0_0 _ _ l0_1 true _ ?side1 ?side2 A2.out).mono ?_); (case side1 => repeat (first | exact (Kd.C_below HR0_1.out HB.out) | (with_reducible refine Kd.C_alloc ?_ _) | (with_reducible refine Kd.C_drewN ?_ _) | (with_reducible refine Kd.C_drew ?_))); (case side2 => exact HC0_1.out); rintro e w18 ⟨rfl, hb⟩; refine ⟨_, rfl, ?_⟩; have n0_ := As_.mk (kb_ (g := gb423) (o := .cells #[.int .i64 a0_0, .slice A0_1 l0_1.length c0_1, .int .i64 a0_2] 56 (0, 0)) (by (with_reducible repeat (first | refine kN_ ?_ _ | refine kd_ ?_ | refine ka_ ?_ _)); exact BK423.out) hb); have n1_ := As_.mk (bp_ (by repeat (first | (with_reducible first | exact HB.out | apply ba_ | apply pN_ | apply bd_ | refine bs_ ?_ GE423.out) | exact HB.out)) hb); clear BK423; clear HB; have BK423 := n0_; have HB := n1_; clear n0_ n1_; (try clear hb); (try clear hb2); (try clear hk); (try clear hi); have hcz19_0 : w18.cell? ⟨gb423, 0, none⟩ = some (.int .i64 a0_0) := (kc_ BK423.out 0).trans rfl; have hcz19_1 : w18.cell? ⟨gb423, 1, none⟩ = some (.slice A0_1 l0_1.length c0_1) := (kc_ BK423.out 1).trans rfl; have hcz19_2 : w18.cell? ⟨gb423, 2, none⟩ = some (.int .i64 a0_2) := (kc_ BK423.out 2).trans rfl; have hfz19_0 := kf_ BK423.out 0; have hfz19_1 := kf_ BK423.out 1; have hfz19_2 := kf_ BK423.out 2; have p425 : 0 ≤ (0 : Int) := (by omega); have q425 : 0 < (l0_1.length : Int) := of_decide_eq_true (by first | (with_reducible assumption) | assumption); obtain ⟨ad425, e425, hx425_0⟩ := Kd.at_int HR0_1.out 0 p425 q425; cases e425; have qi425 : (0 < l0_1.length) = True := eq_true (by omega); (try rw [show ((0 : Int)).toNat = 0 from rfl] at hx425_0); (try rw [Addr.add_zero'] at hx425_0); replace hx425_0 := (HB.out.cell (World.block_lt_of_cell? w _ hx425_0)).trans hx425_0; replace p425 := eq_true p425; replace q425 := eq_true q425))
      go_ret
      exact ⟨by first | rfl | (simp [eN_, eS_] <;> rfl) | (simp [*, eN_, eS_] <;> rfl), by repeat (first | (with_reducible first | exact HB.out | apply ba_ | apply pN_ | apply bd_ | refine bs_ ?_ GE423.out) | exact HB.out)⟩
    ·rw [if_neg c10] at H
     have c10b0 : ((Int.tmod (rd l0_1 0) 2) == 1) = false := beq_eq_false_iff_ne.mpr c10
     have c10b1 : ((Int.tmod (rd l0_1 0) 2) != 1) = true := bne_iff_ne.mpr c10
     obtain rfl := Option.some.inj H
     go_enter Tryz.func224, Tryz.ntmps224
     go_wp2_with (first | ((with_reducible refine gate_dst (N := 1) rfl ?_); refine box_event ?hg (N := 1) ?hd (cs := #[.int .i64 a0_0, .slice A0_1 l0_1.length c0_1, .int .i64 a0_2]) (t := 56) ?hr ?_; (case hd => rfl); (case hg => rfl); (case hr => first | (go_simp; done) | (go_simp; rfl)); intro gb423 hg w20 hbox hb; have n0_ := As_.mk (bp_ (by repeat (first | (with_reducible first | exact HB.out | apply ba_ | apply pN_ | apply bd_) | exact HB.out)) hb); have n1_ := As_.mk (hbox); have n2_ := As_.mk ((by rw [hg]; exact (bz_ (by repeat (first | (with_reducible first | exact HB.out | apply ba_ | apply pN_ | apply bd_) | exact HB.out))) : w.heap.size ≤ gb423)); have n3_ := As_.mk ((by rw [hg]; exact (bz_ (by repeat (first | (with_reducible first | exact HB.out | apply ba_ | apply pN_ | apply bd_) | exact HB.out))) : w.heap.size ≤ gb423)); clear HB; have HB := n0_; have BK423 := n1_; have GW423 := n2_; have GE423 := n3_; clear n0_ n1_ n2_ n3_; clear hb hbox hg; have hcz21_0 : w20.cell? ⟨gb423, 0, none⟩ = some (.int .i64 a0_0) := (kc_ BK423.out 0).trans rfl; have hcz21_1 : w20.cell? ⟨gb423, 1, none⟩ = some (.slice A0_1 l0_1.length c0_1) := (kc_ BK423.out 1).trans rfl; have hcz21_2 : w20.cell? ⟨gb423, 2, none⟩ = some (.int .i64 a0_2) := (kc_ BK423.out 2).trans rfl; have hfz21_0 := kf_ BK423.out 0; have hfz21_1 := kf_ BK423.out 1; have hfz21_2 := kf_ BK423.out 2) | ((with_reducible refine gate_callee (f := 258) rfl ?_); refine goesL_ (some 5) rfl rfl Tryz.func258 (by kernel_rfl) rfl #[.agg #[.int .i64 a0_0, .slice A0_1 l0_1.length c0_1]] rfl (by (try simp only [List.map_toArray, List.map_cons, List.map_nil]); first | done | rfl | (simp only [List.length_drop, List.length_take]; rfl)) ?_; (with_reducible refine (impl_IsWhole.calls k a0_0 _ _ l0_1 true _ ?side1 ?side2 A2.out).mono ?_); (case side1 => repeat (first | exact (Kd.C_below HR0_1.out HB.out) | (with_reducible refine Kd.C_alloc ?_ _) | (with_reducible refine Kd.C_drewN ?_ _) | (with_reducible refine Kd.C_drew ?_))); (case side2 => exact HC0_1.out); rintro e w22 ⟨rfl, hb⟩; refine ⟨_, rfl, ?_⟩; have n0_ := As_.mk (kb_ (g := gb423) (o := .cells #[.int .i64 a0_0, .slice A0_1 l0_1.length c0_1, .int .i64 a0_2] 56 (0, 0)) (by (with_reducible repeat (first | refine kN_ ?_ _ | refine kd_ ?_ | refine ka_ ?_ _)); exact BK423.out) hb); have n1_ := As_.mk (bp_ (by repeat (first | (with_reducible first | exact HB.out | apply ba_ | apply pN_ | apply bd_ | refine bs_ ?_ GE423.out) | exact HB.out)) hb); clear BK423; clear HB; have BK423 := n0_; have HB := n1_; clear n0_ n1_; (try clear hb); (try clear hb2); (try clear hk); (try clear hi); have hcz23_0 : w22.cell? ⟨gb423, 0, none⟩ = some (.int .i64 a0_0) := (kc_ BK423.out 0).trans rfl; have hcz23_1 : w22.cell? ⟨gb423, 1, none⟩ = some (.slice A0_1 l0_1.length c0_1) := (kc_ BK423.out 1).trans rfl; have hcz23_2 : w22.cell? ⟨gb423, 2, none⟩ = some (.int .i64 a0_2) := (kc_ BK423.out 2).trans rfl; have hfz23_0 := kf_ BK423.out 0; have hfz23_1 := kf_ BK423.out 1; have hfz23_2 := kf_ BK423.out 2; have p425 : 0 ≤ (0 : Int) := (by omega); have q425 : 0 < (l0_1.length : Int) := of_decide_eq_true (by first | (with_reducible assumption) | assumption); obtain ⟨ad425, e425, hx425_0⟩ := Kd.at_int HR0_1.out 0 p425 q425; cases e425; have qi425 : (0 < l0_1.length) = True := eq_true (by omega); (try rw [show ((0 : Int)).toNat = 0 from rfl] at hx425_0); (try rw [Addr.add_zero'] at hx425_0); replace hx425_0 := (HB.out.cell (World.block_lt_of_cell? w _ hx425_0)).trans hx425_0; replace p425 := eq_true p425; replace q425 := eq_true q425))
     go_ret
     exact ⟨by first | rfl | (simp [eN_, eS_] <;> rfl) | (simp [*, eN_, eS_] <;> rfl), by repeat (first | (with_reducible first | exact HB.out | apply ba_ | apply pN_ | apply bd_ | refine bs_ ?_ GE423.out) | exact HB.out)⟩
   ·rw [if_neg c9] at H
    exact absurd H (by simp)
 ·replace c3 := Bool.eq_false_iff.mpr c3
  subst c3
  have H1 : (some false) = some r := by rw [if_neg (show ¬ (false = true) by decide)] at H; exact H
  clear H
  have H := H1
  clear H1
  obtain rfl := Option.some.inj H
  go_enter Tryz.func224, Tryz.ntmps224
  go_wp2_with (first | ((with_reducible refine gate_dst (N := 1) rfl ?_); refine box_event ?hg (N := 1) ?hd (cs := #[.int .i64 a0_0, .slice A0_1 l0_1.length c0_1, .int .i64 a0_2]) (t := 56) ?hr ?_; (case hd => rfl); (case hg => rfl); (case hr => first | (go_simp; done) | (go_simp; rfl)); intro gb423 hg w24 hbox hb; have n0_ := As_.mk (bp_ (by repeat (first | (with_reducible first | exact HB.out | apply ba_ | apply pN_ | apply bd_) | exact HB.out)) hb); have n1_ := As_.mk (hbox); have n2_ := As_.mk ((by rw [hg]; exact (bz_ (by repeat (first | (with_reducible first | exact HB.out | apply ba_ | apply pN_ | apply bd_) | exact HB.out))) : w.heap.size ≤ gb423)); have n3_ := As_.mk ((by rw [hg]; exact (bz_ (by repeat (first | (with_reducible first | exact HB.out | apply ba_ | apply pN_ | apply bd_) | exact HB.out))) : w.heap.size ≤ gb423)); clear HB; have HB := n0_; have BK423 := n1_; have GW423 := n2_; have GE423 := n3_; clear n0_ n1_ n2_ n3_; clear hb hbox hg; have hcz25_0 : w24.cell? ⟨gb423, 0, none⟩ = some (.int .i64 a0_0) := (kc_ BK423.out 0).trans rfl; have hcz25_1 : w24.cell? ⟨gb423, 1, none⟩ = some (.slice A0_1 l0_1.length c0_1) := (kc_ BK423.out 1).trans rfl; have hcz25_2 : w24.cell? ⟨gb423, 2, none⟩ = some (.int .i64 a0_2) := (kc_ BK423.out 2).trans rfl; have hfz25_0 := kf_ BK423.out 0; have hfz25_1 := kf_ BK423.out 1; have hfz25_2 := kf_ BK423.out 2) | ((with_reducible refine gate_callee (f := 258) rfl ?_); refine goesL_ (some 5) rfl rfl Tryz.func258 (by kernel_rfl) rfl #[.agg #[.int .i64 a0_0, .slice A0_1 l0_1.length c0_1]] rfl (by (try simp only [List.map_toArray, List.map_cons, List.map_nil]); first | done | rfl | (simp only [List.length_drop, List.length_take]; rfl)) ?_; (with_reducible refine (impl_IsWhole.calls k a0_0 _ _ l0_1 false _ ?side1 ?side2 A2.out).mono ?_); (case side1 => repeat (first | exact (Kd.C_below HR0_1.out HB.out) | (with_reducible refine Kd.C_alloc ?_ _) | (with_reducible refine Kd.C_drewN ?_ _) | (with_reducible refine Kd.C_drew ?_))); (case side2 => exact HC0_1.out); rintro e w26 ⟨rfl, hb⟩; refine ⟨_, rfl, ?_⟩; have n0_ := As_.mk (kb_ (g := gb423) (o := .cells #[.int .i64 a0_0, .slice A0_1 l0_1.length c0_1, .int .i64 a0_2] 56 (0, 0)) (by (with_reducible repeat (first | refine kN_ ?_ _ | refine kd_ ?_ | refine ka_ ?_ _)); exact BK423.out) hb); have n1_ := As_.mk (bp_ (by repeat (first | (with_reducible first | exact HB.out | apply ba_ | apply pN_ | apply bd_ | refine bs_ ?_ GE423.out) | exact HB.out)) hb); clear BK423; clear HB; have BK423 := n0_; have HB := n1_; clear n0_ n1_; (try clear hb); (try clear hb2); (try clear hk); (try clear hi)))
  go_ret
  exact ⟨by first | rfl | (simp [eN_, eS_] <;> rfl) | (simp [*, eN_, eS_] <;> rfl), by repeat (first | (with_reducible first | exact HB.out | apply ba_ | apply pN_ | apply bd_ | refine bs_ ?_ GE423.out) | exact HB.out)⟩
def impl_isMode.f (a0 : Int) : Option (Bool) := if a0 ≥ 0 then (some (decide (a0 ≤ 4))) else (some false)
set_option maxHeartbeats 8000000 in
set_option maxRecDepth 100000 in
theorem impl_isMode.calls (a0 : Int) (r : Bool) (w : World) (h : impl_isMode.f a0 = some r) :
  Calls Tryz.prog 225 #[.int .i64 a0] w fun e w' => e = .returned (.bool r) ∧ Drawn0 w w' := by
 have H : (if a0 ≥ 0 then (some (decide (a0 ≤ 4))) else (some false)) = some r := h
 clear h
 by_cases c2 : a0 ≥ 0
 ·rw [if_pos c2] at H
  have c2b0 : decide (0 ≤ a0) = true := decide_eq_true c2
  clear c2
  obtain rfl := Option.some.inj H
  go_enter Tryz.func225, Tryz.ntmps225
  go_wp2
  go_ret
  exact ⟨by first | rfl | (simp; done) | (simp [*]; done), by repeat (first | exact Drawn0.refl _ | apply Drawn0.step)⟩
 ·rw [if_neg c2] at H
  have c2b0 : decide (0 ≤ a0) = false := decide_eq_false c2
  clear c2
  obtain rfl := Option.some.inj H
  go_enter Tryz.func225, Tryz.ntmps225
  go_wp2
  go_ret
  exact ⟨by first | rfl | (simp; done) | (simp [*]; done), by repeat (first | exact Drawn0.refl _ | apply Drawn0.step)⟩
end Go.Proofs.YtlogcnglmdpejaaGreatDoor.Pq
end
section
namespace Go.Proofs.YtlogcnglmdpejaaGreatDoor.Hd
set_option exponentiation.threshold 3000
open Go.RowKit Go.Proofs.YtlogcnglmdpejaaGreatDoorW.PrintWords Go.Proofs.YtlogcnglmdpejaaGreatDoorW.PrintLast Go.Proofs.YtlogcnglmdpejaaGreatDoorW.PrintMore Go.Proofs.YtlogcnglmdpejaaGreatDoor.Pq
set_option linter.unusedVariables false
set_option linter.unusedSimpArgs false
theorem iw_l0 (n : Nat) : ∀ (k j : Nat) (sg : Int) (N : Nat), (E N).length - j = n → j ≤ (E N).length → (E N).length ≤ 2000 → n < k →
    impl_IsWhole.l0 k ((E N).length : Int) (E N) ((E N).length : Int) j sg (E N) = some true := by
  induction n with
  | zero =>
    intro k j sg N h1 h2 h3 h4
    obtain ⟨k, rfl⟩ : ∃ m, k = m + 1 := ⟨k - 1, by omega⟩
    rw [impl_IsWhole.l0, if_neg (by omega)]
    rcases Nat.eq_zero_or_pos (E N).length with hl | hl
    · rw [if_pos (by omega)]
    · rw [if_neg (by omega), w64 (by omega) (by omega), if_pos (by omega), if_pos (by omega), show ((E N).length : Int) - 1 = (((E N).length - 1 : Nat) : Int) by omega, rd_getD]
      have hcn := E_cn N
      have hlast : (E N).getD ((E N).length - 1) 0 ≠ 0 := by
        unfold Cn at hcn
        rw [List.getLast?_eq_getElem?] at hcn
        rw [List.getD_eq_getElem?_getD]
        intro e
        apply hcn
        rw [List.getElem?_eq_getElem (by omega)] at e ⊢
        simp at e
        rw [e]
      congr 1
      simpa using hlast
  | succ n ih =>
    intro k j sg N h1 h2 h3 h4
    obtain ⟨k, rfl⟩ : ∃ m, k = m + 1 := ⟨k - 1, by omega⟩
    have hd := (E_dg N).getD (by omega) j
    rw [impl_IsWhole.l0, if_pos (by omega), if_pos (by omega), if_pos (by omega), rd_getD, if_neg (by omega), if_neg (by omega), w64s j (by omega), ih k (j + 1) sg N (by omega) (by omega) h3 (by omega)]
theorem iw_f {k : Nat} {z : Int} (hl : (E z.natAbs).length ≤ 2000) (hk : (E z.natAbs).length + 1 < k) : impl_IsWhole.f k (cm z 0) (E z.natAbs) = some (decide ((E z.natAbs).length ≤ 100)) := by
  unfold impl_IsWhole.f
  obtain ⟨k, rfl⟩ : ∃ m, k = m + 1 := ⟨k - 1, by omega⟩
  by_cases hh : (E z.natAbs).length ≤ 100
  · have hc : -1 ≤ cm z 0 ∧ cm z 0 ≤ 1 := by
      unfold cm
      split
      · omega
      · split <;> omega
    have he : ((cm z 0 == 0) != (((E z.natAbs).length : Int) == 0)) = false := by
      by_cases hz : z = 0
      · subst hz
        rw [show (0 : Int).natAbs = 0 from rfl, E_zero]
        rfl
      · have h1 : (cm z 0 == 0) = false := by
          rw [beq_eq_false_iff_ne]
          rcases cm_pm z hz with h | h <;> rw [h] <;> decide
        have h2 : (((E z.natAbs).length : Int) == 0) = false := by
          rw [beq_eq_false_iff_ne]
          intro h
          have := E_len0.1 (show (E z.natAbs).length = 0 by omega)
          omega
        rw [h1, h2]
        rfl
    rw [if_neg (by omega), if_neg (by omega), if_neg (by omega), he, impl_IsWhole.j0, if_neg (by decide), decide_eq_true hh]
    exact iw_l0 (E z.natAbs).length k 0 _ z.natAbs (by omega) (by omega) hl (by omega)
  · rw [if_pos (by omega), impl_IsWhole.j0, if_pos rfl, decide_eq_false hh]
theorem idy_f {k : Nat} {z e : Int} (hl : (E z.natAbs).length ≤ 2000) (hk : (E z.natAbs).length + 1 < k) : impl_IsDyadic.f k (cm z 0) (E z.natAbs) e = some (isD z e) := by
  unfold impl_IsDyadic.f isD
  rw [iw_f hl hk]
  simp only [Option.bind_some]
  by_cases hh : (E z.natAbs).length ≤ 100
  · rw [decide_eq_true hh, if_pos rfl, decide_eq_true (E_hundred.1 hh), Bool.true_and]
    by_cases hz : z = 0
    · subst hz
      have hc : cm 0 0 = 0 := rfl
      simp only [hc, if_true]
      congr 1
      rw [Bool.eq_iff_iff]
      simp
      omega
    · rw [if_neg (by rcases cm_pm z hz with h | h <;> rw [h] <;> decide), if_neg hz]
      have hp : 0 < z.natAbs := by omega
      rw [E_pos hp, if_pos (by simp)]
      have hr : rd (((z.natAbs % 16777216 : Nat) : Int) :: E (z.natAbs / 16777216)) 0 = ((z.natAbs % 16777216 : Nat) : Int) := rfl
      rw [hr, Int.tmod_eq_emod_of_nonneg (by omega)]
      by_cases ho : z.natAbs % 2 = 1
      · rw [if_pos (by omega)]
        have ho2 : (z.natAbs % 2 == 1) = true := by simpa using ho
        rw [ho2, Bool.and_true]
        by_cases h3 : e ≥ -3000
        · rw [if_pos h3]
          congr 1
          exact decide_eq_decide.2 ⟨fun h => ⟨h3, h⟩, fun h => h.2⟩
        · rw [if_neg h3, decide_eq_false (fun h => h3 h.1)]
      · rw [if_neg (by omega)]
        have ho2 : (z.natAbs % 2 == 1) = false := by simpa using ho
        rw [ho2, Bool.and_false]
  · rw [decide_eq_false hh, if_neg (by decide), decide_eq_false (fun h => hh (E_hundred.2 h))]
    rfl
theorem numB_size {t : ByteArray} (h : numB t = true) : t.size = 1 ∨ 10 ^ (t.size - 1) ≤ dec t t.size := by
  obtain ⟨h0, _⟩ := numB_of h
  rcases Nat.lt_or_ge 1 t.size with h1 | h1
  · right
    have := dec_ge (numB_first h h1) (t.size - 1)
    rwa [show t.size - 1 + 1 = t.size by omega] at this
  · left; omega
theorem ten_bits : 2 ^ 2400 ≤ 10 ^ 730 := by
  refine Nat.le_trans (m := (2 ^ 33) ^ 73) ?_ (Nat.le_trans (m := (10 ^ 10) ^ 73) (Nat.pow_le_pow_left (by omega) 73) ?_)
  · rw [← Nat.pow_mul]
    exact Nat.pow_le_pow_right (by omega) (by omega)
  · rw [← Nat.pow_mul]
    exact Nat.le_refl _
theorem num_size {s : ByteArray} (h : isNum s = true) : ∃ t : ByteArray, numB t = true ∧ t.size ≤ s.size ∧ s.size ≤ t.size + 1 ∧ (numZ s).natAbs = dec t t.size := by
  obtain ⟨h0, h1, h2⟩ := isNum_of h
  unfold numZ
  by_cases h45 : bt s 0 = 45
  · rw [if_pos h45]
    exact ⟨_, h1 h45, by simp, by simp; omega, by rw [Int.natAbs_neg, Int.natAbs_natCast]⟩
  · rw [if_neg h45]
    exact ⟨s, h2 h45, Nat.le_refl _, by omega, by rw [Int.natAbs_natCast]⟩
theorem num_short {s : ByteArray} (h : isNum s = true) (hb : bits (numZ s).natAbs ≤ 2400) : s.size ≤ 800 := by
  obtain ⟨t, ht, h1, h2, h3⟩ := num_size h
  rw [h3] at hb
  have hlt := bits_le_iff.1 hb
  rcases numB_size ht with h4 | h4
  · omega
  · rcases Nat.lt_or_ge (t.size - 1) 730 with h5 | h5
    · omega
    · have h6 := Nat.pow_le_pow_right (n := 10) (by omega) h5
      exact absurd hlt (Nat.not_lt.2 (Nat.le_trans ten_bits (Nat.le_trans h6 h4)))
theorem num_tiny {s : ByteArray} (h : isNum s = true) (hb : -3000 ≤ numZ s ∧ numZ s ≤ 3000) : s.size ≤ 6 := by
  obtain ⟨t, ht, h1, h2, h3⟩ := num_size h
  rcases numB_size ht with h4 | h4
  · omega
  · rcases Nat.lt_or_ge (t.size - 1) 4 with h5 | h5
    · omega
    · have h6 := Nat.pow_le_pow_right (n := 10) (by omega) h5
      have h7 : 10 ^ 4 ≤ dec t t.size := Nat.le_trans h6 h4
      omega
theorem bt_list (l : List UInt8) (i : Nat) (h : i < l.length) : bt ⟨⟨l⟩⟩ (i : Int) = ((l[i]'h).toNat : Int) := by
  unfold bt
  have h2 : ((i : Int)).toNat < (⟨⟨l⟩⟩ : ByteArray).size := by rw [Int.toNat_natCast]; exact h
  rw [dif_pos h2]
  rfl
theorem pm_digits (l : List UInt8) (hd : ∀ j : Nat, j < l.length → 48 ≤ bt ⟨⟨l⟩⟩ j ∧ bt ⟨⟨l⟩⟩ j ≤ 57) (hl : l.length ≤ 7) : ∀ n i : Nat, l.length - i = n → i ≤ l.length →
    Lib.parseUintM (2 ^ 64 - 1) (dec ⟨⟨l⟩⟩ i) (l.drop i) = .ok (dec ⟨⟨l⟩⟩ l.length) := by
  intro n
  induction n with
  | zero =>
    intro i h1 h2
    have : i = l.length := by omega
    subst this
    rw [List.drop_of_length_le (Nat.le_refl _)]
    rfl
  | succ n ih =>
    intro i h1 h2
    have hi : i < l.length := by omega
    have hb := bt_list l i hi
    have hdi := hd i hi
    have hlt := dec_lt (t := ⟨⟨l⟩⟩) hd (i + 1) (show i + 1 ≤ l.length by omega)
    have hle : 10 ^ (i + 1) ≤ 10 ^ 7 := Nat.pow_le_pow_right (by omega) (by omega)
    have hs : dec ⟨⟨l⟩⟩ (i + 1) = dec ⟨⟨l⟩⟩ i * 10 + (bt ⟨⟨l⟩⟩ i - 48).toNat := rfl
    rw [List.drop_eq_getElem_cons hi]
    unfold Lib.parseUintM
    have he : dec ⟨⟨l⟩⟩ i * 10 + ((l[i]'hi).toNat - 48) = dec ⟨⟨l⟩⟩ (i + 1) := by omega
    have hl7 : (10 : Nat) ^ 7 = 10000000 := by decide
    rw [if_pos (by omega), if_neg (by omega), he, if_neg (by omega)]
    exact ih (i + 1) (by omega) (by omega)
theorem pu_digits {t : ByteArray} (h : numB t = true) (hl : t.size ≤ 7) : Lib.parseUintB 64 t.data.toList = .ok (dec t t.size) := by
  obtain ⟨h0, hd⟩ := numB_of h
  rcases t with ⟨⟨l⟩⟩
  have hln : (⟨⟨l⟩⟩ : ByteArray).size = l.length := rfl
  rw [hln] at h0 hd hl ⊢
  unfold Lib.parseUintB
  show (if l = [] then _ else Lib.parseUintM (2 ^ 64 - 1) 0 l) = _
  rw [if_neg (by rintro rfl; simp at h0)]
  exact pm_digits l hd hl l.length 0 (by omega) (by omega)
theorem pi_num {s : ByteArray} (h : isNum s = true) (hl : s.size ≤ 6) : Lib.parseIntB 64 s.data.toList = .ok (numZ s) := by
  obtain ⟨h0, h1, h2⟩ := isNum_of h
  unfold numZ
  rcases s with ⟨⟨l⟩⟩
  have hln : (⟨⟨l⟩⟩ : ByteArray).size = l.length := rfl
  rw [hln] at h0 hl
  cases l with
  | nil => simp at h0
  | cons c r =>
    have hc : bt ⟨⟨c :: r⟩⟩ 0 = (c.toNat : Int) := bt_list (c :: r) 0 (by simp)
    unfold Lib.parseIntB
    dsimp only
    by_cases h45 : bt ⟨⟨c :: r⟩⟩ 0 = 45
    · have hn := h1 h45
      have hsz : ((⟨⟨c :: r⟩⟩ : ByteArray).extract 1 (⟨⟨c :: r⟩⟩ : ByteArray).size).size ≤ 7 := by simp; omega
      have hp := pu_digits hn hsz
      have hr : ((⟨⟨c :: r⟩⟩ : ByteArray).extract 1 (⟨⟨c :: r⟩⟩ : ByteArray).size).data.toList = r := by
        rw [ByteArray.data_extract, Array.toList_extract]
        simp [List.extract]
        rw [List.take_of_length_le]
        show r.length ≤ (c :: r).length - 1
        simp
      rw [hr] at hp
      have hlt := dec_lt (numB_of hn).2 _ (Nat.le_refl _)
      have hle := Nat.pow_le_pow_right (n := 10) (by omega) hsz
      have hl7 : (10 : Nat) ^ 7 = 10000000 := by decide
      rw [if_pos h45, if_pos (.inr (by omega)), hp]
      simp only
      rw [if_neg (by omega), if_neg (by omega), if_pos (by omega)]
    · have hn := h2 h45
      obtain ⟨_, hd⟩ := numB_of hn
      have hd0 := hd 0 (by show 0 < (c :: r).length; simp)
      have hp := pu_digits hn (by show (c :: r).length ≤ 7; omega)
      have hlt := dec_lt hd _ (Nat.le_refl _)
      have hle := Nat.pow_le_pow_right (n := 10) (by omega) (show (⟨⟨c :: r⟩⟩ : ByteArray).size ≤ 7 by show (c :: r).length ≤ 7; omega)
      have hl7 : (10 : Nat) ^ 7 = 10000000 := by decide
      have hd1 : 48 ≤ bt ⟨⟨c :: r⟩⟩ 0 := hd0.1
      rw [if_neg h45, if_neg (by omega)]
      have hp2 : Lib.parseUintB 64 (c :: r) = .ok (dec ⟨⟨c :: r⟩⟩ (⟨⟨c :: r⟩⟩ : ByteArray).size) := hp
      rw [hp2]
      simp only
      rw [if_neg (by omega), if_neg (by omega), if_neg (by omega)]
theorem pAt_spec (s : ByteArray) : ∀ n i : Nat, (∀ j : Nat, i ≤ j → j < pAt s n i → bt s j ≠ 112) ∧ (pAt s n i < i + n → bt s (pAt s n i : Nat) = 112)
  | 0, i => by
    unfold pAt
    exact ⟨fun j h1 h2 => by omega, fun h => by omega⟩
  | n + 1, i => by
    unfold pAt
    by_cases h : bt s i = 112
    · rw [if_pos h]
      exact ⟨fun j h1 h2 => by omega, fun _ => h⟩
    · rw [if_neg h]
      obtain ⟨a, b⟩ := pAt_spec s n (i + 1)
      refine ⟨fun j h1 h2 => ?_, fun h2 => b (by omega)⟩
      rcases Nat.eq_or_lt_of_le h1 with rfl | h3
      · exact h
      · exact a j h3 h2
theorem bt_p (l : List UInt8) (i : Nat) : (bt ⟨⟨l⟩⟩ (i : Int) = 112) ↔ l[i]? = some 112 := by
  by_cases h : i < l.length
  · rw [bt_list l i h, List.getElem?_eq_getElem h]
    constructor
    · intro e
      congr 1
      apply UInt8.toNat_inj.1
      have : (l[i]'h).toNat = 112 := by omega
      rw [this]
      rfl
    · intro e
      injection e with e
      rw [e]
      rfl
  · rw [List.getElem?_eq_none (by omega)]
    unfold bt
    have h2 : ¬ ((i : Int)).toNat < (⟨⟨l⟩⟩ : ByteArray).size := by rw [Int.toNat_natCast]; exact h
    rw [dif_neg h2]
    constructor
    · intro e; omega
    · intro e; cases e
theorem ix_p (s : ByteArray) : Lib.indexByte s.data.toList 112 = if pIx s = s.size then -1 else (pIx s : Int) := by
  rcases s with ⟨⟨l⟩⟩
  have hln : (⟨⟨l⟩⟩ : ByteArray).size = l.length := rfl
  obtain ⟨h1, h2⟩ := pAt_spec ⟨⟨l⟩⟩ l.length 0
  have hle := pIx_le ⟨⟨l⟩⟩
  have hpx : pIx ⟨⟨l⟩⟩ = pAt ⟨⟨l⟩⟩ l.length 0 := rfl
  rw [hln] at hle ⊢
  rw [← hpx] at h1 h2
  show Lib.indexByte l 112 = _
  have hge := Lib.indexByte_ge l 112
  by_cases hm : Lib.indexByte l 112 = -1
  · have hn := Lib.indexByte_none hm
    rw [hm]
    by_cases hp : pIx ⟨⟨l⟩⟩ = l.length
    · rw [if_pos hp]
    · exact absurd ((bt_p l _).1 (h2 (by omega))) (hn _)
  · obtain ⟨o, ho⟩ := Int.eq_ofNat_of_zero_le (show 0 ≤ Lib.indexByte l 112 by omega)
    obtain ⟨a, b⟩ := Lib.indexByte_some ho
    have hol : o < l.length := by
      rcases Nat.lt_or_ge o l.length with h | h
      · exact h
      · rw [List.getElem?_eq_none h] at a; cases a
    rw [ho]
    have h3 : ¬ o < pIx ⟨⟨l⟩⟩ := fun h => h1 o (by omega) h ((bt_p l o).2 a)
    have h4 : ¬ pIx ⟨⟨l⟩⟩ < o := fun h => b _ h ((bt_p l _).1 (h2 (by omega)))
    have h5 : pIx ⟨⟨l⟩⟩ = o := by omega
    rw [h5, if_neg (by omega)]
end Go.Proofs.YtlogcnglmdpejaaGreatDoor.Hd
end
