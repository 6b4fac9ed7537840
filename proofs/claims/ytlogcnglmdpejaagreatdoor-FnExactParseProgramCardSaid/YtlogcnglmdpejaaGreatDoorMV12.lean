/- Part 12 of the proof of the card of FnExactV: walks of the functions and plain facts on them. -/
import Derived.Test.YtlogcnglmdpejaaGreatDoorMV3
import Derived.Test.YtlogcnglmdpejaaGreatDoorMV11
section
namespace Go.Proofs.YtlogcnglmdpejaaGreatDoor.Pq
open Go.RowKit Go.Proofs.YtlogcnglmdpejaaGreatDoorW.PrintWords Go.Proofs.YtlogcnglmdpejaaGreatDoorW.PrintLast Go.Proofs.YtlogcnglmdpejaaGreatDoorW.PrintMore
attribute [local go_sem] max2_int min2_int max_two min_two max_three min_three max_four min_four
set_option linter.unusedVariables false
set_option linter.unusedSimpArgs false
mutual
def spec_l02Read.j0 : Nat → Int → ByteArray → Bool → Option (Int × List Int × Bool)
 | 0, _, _, _ => none
 | k + 1, x4, x5, x19 => if x19 = true then (if 1 ≤ (x5.size : Int) then (spec_l02Read.j1 k (-1) (x5.extract 1 x5.size)) else (none)) else (spec_l02Read.j1 k x4 x5)
def spec_l02Read.j1 : Nat → Int → ByteArray → Option (Int × List Int × Bool)
 | 0, _, _ => none
 | k + 1, x4, x5 => if (x5.size : Int) = 0 then (spec_l02Read.j2 k x4 x5 true) else (if 0 < (x5.size : Int) then (if (bt x5 0) = 48 then (if (x5.size : Int) > 1 then (spec_l02Read.j2 k x4 x5 true) else (spec_l02Read.j2 k x4 x5 (decide (x4 < 0)))) else (spec_l02Read.j2 k x4 x5 false)) else (none))
def spec_l02Read.j2 : Nat → Int → ByteArray → Bool → Option (Int × List Int × Bool)
 | 0, _, _, _ => none
 | k + 1, x4, x5, x38 => if x38 = true then (some (0, ([] : List Int), false)) else (spec_l02Read.l0 k x4 x5 0)
def spec_l02Read.l0 : Nat → Int → ByteArray → Int → Option (Int × List Int × Bool)
 | 0, _, _, _ => none
 | k + 1, x4, x5, x6 => if x6 < (x5.size : Int) then (if 0 ≤ x6 then (if (bt x5 x6) < 48 then (some (0, ([] : List Int), false)) else (if (bt x5 x6) > 57 then (some (0, ([] : List Int), false)) else (spec_l02Read.l0 k x4 x5 (wrap64 (x6 + 1))))) else (none)) else (spec_l02Read.l1 k x4 x5 (([] : List Int)) 0)
def spec_l02Read.l1 : Nat → Int → ByteArray → List Int → Int → Option (Int × List Int × Bool)
 | 0, _, _, _, _ => none
 | k + 1, x4, x5, x7, x8 => if x8 < (x5.size : Int) then (spec_l02Read.j5 k x4 x5 x7 x8 (decide (x8 < 1000))) else (spec_l02Read.j5 k x4 x5 x7 x8 false)
def spec_l02Read.j5 : Nat → Int → ByteArray → List Int → Int → Bool → Option (Int × List Int × Bool)
 | 0, _, _, _, _, _ => none
 | k + 1, x4, x5, x7, x8, x65 => if x65 = true then (if 0 ≤ x8 then (if x8 < (x5.size : Int) then (spec_l02Read.l2 k x4 x5 x7 x8 (((bt x5 x8) - 48) % 256) 0) else (none)) else (none)) else ((spec_l02Make.f k x4 x7).bind fun bt132 => (some (bt132.1, bt132.2, true)))
def spec_l02Read.l2 : Nat → Int → ByteArray → List Int → Int → Int → Int → Option (Int × List Int × Bool)
 | 0, _, _, _, _, _, _ => none
 | k + 1, x4, x5, x7, x8, x9, x10 => if x10 < (x7.length : Int) then (if 0 ≤ x10 then (spec_l02Read.l2 k x4 x5 (x7.set (x10 : Int).toNat (Int.tmod (wrap64 (x9 + (wrap64 (10 * (rd x7 x10))))) 16777216)) x8 (wrap64 (Int.tdiv (wrap64 (x9 + (wrap64 (10 * (rd x7 x10))))) 16777216)) (wrap64 (x10 + 1))) else (none)) else (if x9 > 0 then (if x7.length < 17592186044416 then (spec_l02Read.l1 k x4 x5 (x7 ++ [x9]) (wrap64 (x8 + 1))) else (none)) else (spec_l02Read.l1 k x4 x5 x7 (wrap64 (x8 + 1))))
end
def spec_l02Read.f (k : Nat) (a0 : ByteArray) : Option (Int × List Int × Bool) := if (a0.size : Int) > 0 then (if 0 < (a0.size : Int) then (spec_l02Read.j0 k 1 a0 ((bt a0 0) == 45)) else (none)) else (spec_l02Read.j0 k 1 a0 false)
set_option maxHeartbeats 8000000 in
set_option maxRecDepth 100000 in
theorem spec_l02Read.calls (k : Nat) (a0 : ByteArray) (r1 : Int) (r2 : List Int) (r3 : Bool) (w : World) (h : spec_l02Read.f k a0 = some (r1, r2, r3)) :
  Calls Tryz.prog 233 #[.string a0] w fun e w' => ∃ v1_ : Value, e = .returned (.tuple #[.agg #[.int .i64 r1, v1_], .bool r3]) ∧ Kd.R (Kd.int .i64) 2 w' w.heap.size (fun _ => True) v1_ r2 ∧ Below w.heap.size w w' := by
 have hu54 := Tryz.underlying54
 have HB := As_.mk (Below.refl w.heap.size w)
 have H : (if (a0.size : Int) > 0 then (if 0 < (a0.size : Int) then (spec_l02Read.j0 k 1 a0 ((bt a0 0) == 45)) else (none)) else (spec_l02Read.j0 k 1 a0 false)) = some (r1, r2, r3) := h
 clear h
 have HC2 := As_.mk H
 clear H
 go_enter Tryz.func233, Tryz.ntmps233
 go_upto_region 2 with (first | ((with_reducible refine gate_dst (N := 2) rfl ?_); (try (refine gate_guard (by rfl) ?_; dsimp only)); refine box_event ?hg (N := 2) ?hd (cs := #[.int .i64 0, .slice none 0 0]) (t := 54) ?hr ?_; (case hd => rfl); (case hg => rfl); (case hr => first | (go_simp; done) | (go_simp; rfl)); intro gb128 hg w3 hbox hb; have n0_ := As_.mk (bp_ (by repeat (first | (with_reducible first | exact HB.out | apply ba_ | apply pN_ | apply bd_) | exact HB.out)) hb); have n1_ := As_.mk (hbox); have n2_ := As_.mk ((by rw [hg]; exact (bz_ (by repeat (first | (with_reducible first | exact HB.out | apply ba_ | apply pN_ | apply bd_) | exact HB.out))) : w.heap.size ≤ gb128)); have n3_ := As_.mk ((by rw [hg]; exact (bz_ (by repeat (first | (with_reducible first | exact HB.out | apply ba_ | apply pN_ | apply bd_) | exact HB.out))) : w.heap.size ≤ gb128)); clear HB; have HB := n0_; have BK128 := n1_; have GW128 := n2_; have GE128 := n3_; clear n0_ n1_ n2_ n3_; clear hb hbox hg))
 (try simp only [Act.put, List.setIfInBounds_toArray, List.set_cons_zero, List.set_cons_succ])
 go_cut [19] (fun v19 wc => ∃ (kq : Nat) (x19_1 : Bool), v19 = .bool x19_1 ∧ As_ (spec_l02Read.j0 kq 1 a0 x19_1 = some (r1, r2, r3)) ∧ As_ (kq ≤ k) ∧ As_ (wc.heap[gb128]? = some (.cells #[.int .i64 0, (.slice none 0 0)] 54 (0, 0))) ∧ As_ (Below w.heap.size w wc))
 case first =>
  have H := HC2.out
  clear HC2
  by_cases c4 : (a0.size : Int) > 0
  ·rw [if_pos c4] at H
   have c4b0 : decide (0 < (a0.size : Int)) = true := decide_eq_true c4
   have c4b1 : decide (0 < a0.size) = true := decide_eq_true (by omega)
   clear c4
   (first | rw [c4b0] | (simp only [i64_w, i32_w]; rw [c4b0]) | skip)
   by_cases c5 : 0 < (a0.size : Int)
   ·rw [if_pos c5] at H
    have c5b0 : decide (0 < (a0.size : Int)) = true := decide_eq_true c5
    have c5b1 : decide (0 < a0.size) = true := decide_eq_true (by omega)
    clear c5
    have H' := As_.mk H
    clear H
    have p6 : 0 ≤ (0 : Int) := (by omega)
    have q6 : 0 < a0.size := (by have : (0 : Int) < (a0.size : Int) := of_decide_eq_true (by first | (with_reducible assumption) | assumption); omega)
    have hx6 : ∀ h : 0 < a0.size, ((a0[0]'h).toNat : Int) = bt a0 0 := bt_at a0 0
    clear p6
    have qi6 : (0 < (a0.size : Int)) = True := eq_true (of_decide_eq_true (by first | (with_reducible assumption) | assumption))
    replace q6 := eq_true q6
    go_wp2
    go_meet
    case rel => exact ⟨_, (((bt a0 0) == 45)), (by first | rfl | (simp; done) | (simp [*]; done)), H', ⟨by first | omega | exact Nat.le_refl _⟩, ⟨by (with_reducible repeat (first | refine kN_ ?_ _ | refine kd_ ?_ | refine ka_ ?_ _)); exact BK128.out⟩, ⟨by repeat (first | (with_reducible first | exact HB.out | apply ba_ | apply pN_ | apply bd_ | refine bs_ ?_ GE128.out) | exact HB.out)⟩⟩
   ·rw [if_neg c5] at H
    exact absurd H (by simp)
  ·rw [if_neg c4] at H
   have c4b0 : decide (0 < (a0.size : Int)) = false := decide_eq_false c4
   have c4b1 : decide (0 < a0.size) = false := decide_eq_false (by omega)
   clear c4
   (first | rw [c4b0] | (simp only [i64_w, i32_w]; rw [c4b0]) | skip)
   have H' := As_.mk H
   clear H
   go_wp2
   go_meet
   case rel => exact ⟨_, (false), (by first | rfl | (simp; done) | (simp [*]; done)), H', ⟨by first | omega | exact Nat.le_refl _⟩, ⟨by (with_reducible repeat (first | refine kN_ ?_ _ | refine kd_ ?_ | refine ka_ ?_ _)); exact BK128.out⟩, ⟨by repeat (first | (with_reducible first | exact HB.out | apply ba_ | apply pN_ | apply bd_ | refine bs_ ?_ GE128.out) | exact HB.out)⟩⟩
 case rest =>
  clear HC2
  try clear c2
  try clear p2
  try clear c4
  try clear c4b0
  try clear c4b1
  try clear c5
  try clear c5b0
  try clear c5b1
  try clear p6
  try clear q6
  try clear hx6
  try clear qi6
  try clear p6
  try clear q6
  obtain ⟨kq, x19_1, rfl, HA, HJ1, BK128, HB⟩ := hcut
  cases kq with
  | zero => exact absurd HA.out (by simp [spec_l02Read.j0])
  | succ kj1 =>
   have H := HA.out
   clear HA
   simp only [spec_l02Read.j0] at H
   have HC7 := As_.mk H
   clear H
   go_upto_if 19 with (fail)
   go_cut [4, 5] (fun v4 v5 wc => ∃ (kq : Nat) (x4_6 : Int) (x5_6 : ByteArray), v4 = .int .i64 x4_6 ∧ v5 = .string x5_6 ∧ As_ (spec_l02Read.j1 kq x4_6 x5_6 = some (r1, r2, r3)) ∧ As_ (kq ≤ kj1) ∧ As_ (wc.heap[gb128]? = some (.cells #[.int .i64 0, (.slice none 0 0)] 54 (0, 0))) ∧ As_ (Below w.heap.size w wc))
   case first =>
    have H := HC7.out
    clear HC7
    by_cases c8 : x19_1 = true
    ·subst c8
     have H1 : (if 1 ≤ (a0.size : Int) then (spec_l02Read.j1 kj1 (-1) (a0.extract 1 a0.size)) else (none)) = some (r1, r2, r3) := by rw [if_pos rfl] at H; exact H
     clear H
     have H := H1
     clear H1
     by_cases c9 : 1 ≤ (a0.size : Int)
     ·rw [if_pos c9] at H
      have c9b0 := eq_true c9
      have c9b1 : decide (1 ≤ (a0.size : Int)) = true := decide_eq_true c9
      clear c9
      have H' := As_.mk H
      clear H
      go_wp2
      go_meet
      case rel => exact ⟨_, ((-1)), (a0.extract 1 a0.size), (by first | rfl | (simp; done) | (simp [*]; done)), (by first | rfl | (simp; done) | (simp [*]; done)), H', ⟨by have := HJ1.out; first | omega | exact Nat.le_refl _⟩, ⟨by (with_reducible repeat (first | refine kN_ ?_ _ | refine kd_ ?_ | refine ka_ ?_ _)); exact BK128.out⟩, ⟨by repeat (first | (with_reducible first | exact HB.out | apply ba_ | apply pN_ | apply bd_ | refine bs_ ?_ GE128.out) | exact HB.out)⟩⟩
     ·rw [if_neg c9] at H
      exact absurd H (by simp)
    ·replace c8 := Bool.eq_false_iff.mpr c8
     subst c8
     have H1 : (spec_l02Read.j1 kj1 1 a0) = some (r1, r2, r3) := by rw [if_neg (show ¬ (false = true) by decide)] at H; exact H
     clear H
     have H := H1
     clear H1
     have H' := As_.mk H
     clear H
     go_wp2
     go_meet
     case rel => exact ⟨_, (1), (a0), (by first | rfl | (simp; done) | (simp [*]; done)), (by first | rfl | (simp; done) | (simp [*]; done)), H', ⟨by have := HJ1.out; first | omega | exact Nat.le_refl _⟩, ⟨by (with_reducible repeat (first | refine kN_ ?_ _ | refine kd_ ?_ | refine ka_ ?_ _)); exact BK128.out⟩, ⟨by repeat (first | (with_reducible first | exact HB.out | apply ba_ | apply pN_ | apply bd_ | refine bs_ ?_ GE128.out) | exact HB.out)⟩⟩
   case rest =>
    clear HC7
    try clear c2
    try clear p2
    try clear c4
    try clear c4b0
    try clear c4b1
    try clear c5
    try clear c5b0
    try clear c5b1
    try clear p6
    try clear q6
    try clear hx6
    try clear qi6
    try clear c8
    try clear c9
    try clear c9b0
    try clear c9b1
    try clear p2
    try clear p6
    try clear q6
    obtain ⟨kq, x4_6, x5_6, rfl, rfl, HA, HJ6, BK128, HB⟩ := hcut
    cases kq with
    | zero => exact absurd HA.out (by simp [spec_l02Read.j1])
    | succ kj6 =>
     have H := HA.out
     clear HA
     simp only [spec_l02Read.j1] at H
     have HC10 := As_.mk H
     clear H
     go_upto_region 5 with (fail)
     go_cut [38] (fun v38 wc => ∃ (kq : Nat) (x38_9 : Bool), v38 = .bool x38_9 ∧ As_ (spec_l02Read.j2 kq x4_6 x5_6 x38_9 = some (r1, r2, r3)) ∧ As_ (kq ≤ kj6) ∧ As_ (wc.heap[gb128]? = some (.cells #[.int .i64 0, (.slice none 0 0)] 54 (0, 0))) ∧ As_ (Below w.heap.size w wc))
     case first =>
      have H := HC10.out
      clear HC10
      by_cases c11 : (x5_6.size : Int) = 0
      ·rw [if_pos c11] at H
       have c11b0 : ((x5_6.size : Int) == 0) = true := beq_iff_eq.mpr c11
       have c11b1 : ((x5_6.size : Int) != 0) = false := bne_eq_false_iff_eq.mpr c11
       clear c11
       (first | rw [c11b0] | (simp only [i64_w, i32_w]; rw [c11b0]) | skip)
       have H' := As_.mk H
       clear H
       go_wp2
       go_meet
       case rel => exact ⟨_, (true), (by first | rfl | (simp; done) | (simp [*]; done)), H', ⟨by have := HJ1.out; have := HJ6.out; first | omega | exact Nat.le_refl _⟩, ⟨by (with_reducible repeat (first | refine kN_ ?_ _ | refine kd_ ?_ | refine ka_ ?_ _)); exact BK128.out⟩, ⟨by repeat (first | (with_reducible first | exact HB.out | apply ba_ | apply pN_ | apply bd_ | refine bs_ ?_ GE128.out) | exact HB.out)⟩⟩
      ·rw [if_neg c11] at H
       have c11b0 : ((x5_6.size : Int) == 0) = false := beq_eq_false_iff_ne.mpr c11
       have c11b1 : ((x5_6.size : Int) != 0) = true := bne_iff_ne.mpr c11
       (first | rw [c11b0] | (simp only [i64_w, i32_w]; rw [c11b0]) | skip)
       by_cases c12 : 0 < (x5_6.size : Int)
       ·rw [if_pos c12] at H
        have c12b0 : decide (0 < (x5_6.size : Int)) = true := decide_eq_true c12
        have c12b1 : decide (0 < x5_6.size) = true := decide_eq_true (by omega)
        clear c12
        by_cases c14 : (bt x5_6 0) = 48
        ·rw [if_pos c14] at H
         have c14b0 : ((bt x5_6 0) == 48) = true := beq_iff_eq.mpr c14
         have c14b1 : ((bt x5_6 0) != 48) = false := bne_eq_false_iff_eq.mpr c14
         clear c14
         by_cases c15 : (x5_6.size : Int) > 1
         ·rw [if_pos c15] at H
          have c15b0 : decide (1 < (x5_6.size : Int)) = true := decide_eq_true c15
          have c15b1 : decide (1 < x5_6.size) = true := decide_eq_true (by omega)
          clear c15
          have H' := As_.mk H
          clear H
          have p13 : 0 ≤ (0 : Int) := (by omega)
          have q13 : 0 < x5_6.size := (by have : (0 : Int) < (x5_6.size : Int) := of_decide_eq_true (by first | (with_reducible assumption) | assumption); omega)
          have hx13 : ∀ h : 0 < x5_6.size, ((x5_6[0]'h).toNat : Int) = bt x5_6 0 := bt_at x5_6 0
          clear p13
          have qi13 : (0 < (x5_6.size : Int)) = True := eq_true (of_decide_eq_true (by first | (with_reducible assumption) | assumption))
          replace q13 := eq_true q13
          go_wp2
          go_meet
          case rel => exact ⟨_, (true), (by first | rfl | (simp; done) | (simp [*]; done)), H', ⟨by have := HJ1.out; have := HJ6.out; first | omega | exact Nat.le_refl _⟩, ⟨by (with_reducible repeat (first | refine kN_ ?_ _ | refine kd_ ?_ | refine ka_ ?_ _)); exact BK128.out⟩, ⟨by repeat (first | (with_reducible first | exact HB.out | apply ba_ | apply pN_ | apply bd_ | refine bs_ ?_ GE128.out) | exact HB.out)⟩⟩
         ·rw [if_neg c15] at H
          have c15b0 : decide (1 < (x5_6.size : Int)) = false := decide_eq_false c15
          have c15b1 : decide (1 < x5_6.size) = false := decide_eq_false (by omega)
          clear c15
          have H' := As_.mk H
          clear H
          have p13 : 0 ≤ (0 : Int) := (by omega)
          have q13 : 0 < x5_6.size := (by have : (0 : Int) < (x5_6.size : Int) := of_decide_eq_true (by first | (with_reducible assumption) | assumption); omega)
          have hx13 : ∀ h : 0 < x5_6.size, ((x5_6[0]'h).toNat : Int) = bt x5_6 0 := bt_at x5_6 0
          clear p13
          have qi13 : (0 < (x5_6.size : Int)) = True := eq_true (of_decide_eq_true (by first | (with_reducible assumption) | assumption))
          replace q13 := eq_true q13
          go_wp2
          go_meet
          case rel => exact ⟨_, (decide (x4_6 < 0)), (by first | rfl | (simp; done) | (simp [*]; done)), H', ⟨by have := HJ1.out; have := HJ6.out; first | omega | exact Nat.le_refl _⟩, ⟨by (with_reducible repeat (first | refine kN_ ?_ _ | refine kd_ ?_ | refine ka_ ?_ _)); exact BK128.out⟩, ⟨by repeat (first | (with_reducible first | exact HB.out | apply ba_ | apply pN_ | apply bd_ | refine bs_ ?_ GE128.out) | exact HB.out)⟩⟩
        ·rw [if_neg c14] at H
         have c14b0 : ((bt x5_6 0) == 48) = false := beq_eq_false_iff_ne.mpr c14
         have c14b1 : ((bt x5_6 0) != 48) = true := bne_iff_ne.mpr c14
         have H' := As_.mk H
         clear H
         have p13 : 0 ≤ (0 : Int) := (by omega)
         have q13 : 0 < x5_6.size := (by have : (0 : Int) < (x5_6.size : Int) := of_decide_eq_true (by first | (with_reducible assumption) | assumption); omega)
         have hx13 : ∀ h : 0 < x5_6.size, ((x5_6[0]'h).toNat : Int) = bt x5_6 0 := bt_at x5_6 0
         clear p13
         have qi13 : (0 < (x5_6.size : Int)) = True := eq_true (of_decide_eq_true (by first | (with_reducible assumption) | assumption))
         replace q13 := eq_true q13
         go_wp2
         go_meet
         case rel => exact ⟨_, (false), (by first | rfl | (simp; done) | (simp [*]; done)), H', ⟨by have := HJ1.out; have := HJ6.out; first | omega | exact Nat.le_refl _⟩, ⟨by (with_reducible repeat (first | refine kN_ ?_ _ | refine kd_ ?_ | refine ka_ ?_ _)); exact BK128.out⟩, ⟨by repeat (first | (with_reducible first | exact HB.out | apply ba_ | apply pN_ | apply bd_ | refine bs_ ?_ GE128.out) | exact HB.out)⟩⟩
       ·rw [if_neg c12] at H
        exact absurd H (by simp)
     case rest =>
      clear HC10
      try clear c1
      try clear p1
      try clear q1
      try clear hx1
      try clear qi1
      try clear c2
      try clear p2
      try clear c4
      try clear c4b0
      try clear c4b1
      try clear c5
      try clear c5b0
      try clear c5b1
      try clear p6
      try clear q6
      try clear hx6
      try clear qi6
      try clear c8
      try clear c9
      try clear c9b0
      try clear c9b1
      try clear c11
      try clear c11b0
      try clear c11b1
      try clear c12
      try clear c12b0
      try clear c12b1
      try clear p13
      try clear q13
      try clear hx13
      try clear qi13
      try clear c14
      try clear c14b0
      try clear c14b1
      try clear c15
      try clear c15b0
      try clear c15b1
      try clear p13
      try clear p2
      try clear p6
      try clear q13
      try clear q6
      obtain ⟨kq, x38_9, rfl, HA, HJ9, BK128, HB⟩ := hcut
      cases kq with
      | zero => exact absurd HA.out (by simp [spec_l02Read.j2])
      | succ kj9 =>
       have H := HA.out
       clear HA
       simp only [spec_l02Read.j2] at H
       by_cases c16 : x38_9 = true
       ·subst c16
        have H1 : (some (0, ([] : List Int), false)) = some (r1, r2, r3) := by rw [if_pos rfl] at H; exact H
        clear H
        have H := H1
        clear H1
        simp only [Option.some.injEq, Prod.mk.injEq] at H
        obtain ⟨rfl, rfl, rfl⟩ := H
        have hcz17_0 : wc.cell? ⟨gb128, 0, none⟩ = some (.int .i64 0) := (kc_ BK128.out 0).trans rfl
        have hcz17_1 : wc.cell? ⟨gb128, 1, none⟩ = some (.slice none 0 0) := (kc_ BK128.out 1).trans rfl
        have hfz17_0 := kf_ BK128.out 0
        have hfz17_1 := kf_ BK128.out 1
        go_wp2
        refine bodyPost_ret (results_ct rfl _ _ gb128 54 #[.int .i64 0, .slice none 0 0] (0, 0) _ rfl (by (with_reducible repeat (first | refine kN_ ?_ _ | refine kd_ ?_ | refine ka_ ?_ _)); refine blk_put (cs := #[.int .i64 0, .slice none 0 0]) ?_ 1 _ rfl; (with_reducible repeat (first | refine kN_ ?_ _ | refine kd_ ?_ | refine ka_ ?_ _)); refine blk_put (cs := #[.int .i64 0, .slice none 0 0]) ?_ 0 _ rfl; (with_reducible repeat (first | refine kN_ ?_ _ | refine kd_ ?_ | refine ka_ ?_ _)); exact BK128.out) Tryz.underlying54 rfl (by kernel_rfl)) rfl ?_
        exact ⟨_, by first | rfl | (simp [eN_, eS_] <;> rfl) | (simp [*, eN_, eS_] <;> rfl), by first | exact Kd.R_nil _ _ _ _ _ | exact Kd.N_nil _ _ _ _ _ | exact Kd.V_nil _ _ _ _ _ | exact Kd.Q_nil _ _ _ _ _ | exact Kd.S_nil _ _ _ _ _, by repeat (first | (with_reducible first | exact HB.out | apply ba_ | apply pN_ | apply bd_ | refine bs_ ?_ GE128.out) | exact HB.out)⟩
       ·replace c16 := Bool.eq_false_iff.mpr c16
        subst c16
        have H1 : (spec_l02Read.l0 kj9 x4_6 x5_6 0) = some (r1, r2, r3) := by rw [if_neg (show ¬ (false = true) by decide)] at H; exact H
        clear H
        have H := H1
        clear H1
        have H' := As_.mk H
        clear H
        go_wp2
        go_loopg [6] kj9 (fun kq v6 w' => ∃ (x6_4 : Int) (x129000_4 : Int), v6 = .int .i64 x6_4 ∧ As_ (spec_l02Read.l0 kq x4_6 x5_6 x6_4 = some (r1, r2, r3)) ∧ As_ (kq ≤ kj9) ∧ As_ (w'.heap[gb128]? = some (.cells #[.int .i64 x129000_4, (.slice none 0 0)] 54 (0, 0))) ∧ As_ (Below w.heap.size w w'))
        case atStart => exact ⟨(0), (0), (by first | rfl | (simp; done) | (simp [*]; done)), H', ⟨Nat.le_refl _⟩, ⟨by (with_reducible repeat (first | refine kN_ ?_ _ | refine kd_ ?_ | refine ka_ ?_ _)); exact BK128.out⟩, ⟨by repeat (first | (with_reducible first | exact HB.out | apply ba_ | apply pN_ | apply bd_ | refine bs_ ?_ GE128.out) | exact HB.out)⟩⟩
        case round =>
         clear H'
         try clear c1
         try clear p1
         try clear q1
         try clear hx1
         try clear qi1
         try clear c2
         try clear p2
         try clear c4
         try clear c4b0
         try clear c4b1
         try clear c5
         try clear c5b0
         try clear c5b1
         try clear p6
         try clear q6
         try clear hx6
         try clear qi6
         try clear c8
         try clear c9
         try clear c9b0
         try clear c9b1
         try clear c11
         try clear c11b0
         try clear c11b1
         try clear c12
         try clear c12b0
         try clear c12b1
         try clear p13
         try clear q13
         try clear hx13
         try clear qi13
         try clear c14
         try clear c14b0
         try clear c14b1
         try clear c15
         try clear c15b0
         try clear c15b1
         try clear c16
         try clear hcz17_0
         try clear hcz17_1
         try clear hfz17_0
         try clear hfz17_1
         try clear p1
         try clear p13
         try clear p2
         try clear p6
         try clear q1
         try clear q13
         try clear q6
         obtain ⟨x6_4, x129000_4, rfl, HA, HK4, BK128, HB⟩ := hrel
         cases gk with
         | zero => exact absurd HA.out (by simp [spec_l02Read.l0])
         | succ k4 =>
          have H := HA.out
          clear HA
          simp only [spec_l02Read.l0] at H
          by_cases c18 : x6_4 < (x5_6.size : Int)
          ·rw [if_pos c18] at H
           have c18b0 : decide (x6_4 < (x5_6.size : Int)) = true := decide_eq_true c18
           clear c18
           by_cases c19 : 0 ≤ x6_4
           ·rw [if_pos c19] at H
            have c19b0 : decide (0 ≤ x6_4) = true := decide_eq_true c19
            clear c19
            by_cases c21 : (bt x5_6 x6_4) < 48
            ·rw [if_pos c21] at H
             have c21b0 : decide ((bt x5_6 x6_4) < 48) = true := decide_eq_true c21
             clear c21
             simp only [Option.some.injEq, Prod.mk.injEq] at H
             obtain ⟨rfl, rfl, rfl⟩ := H
             have p20 : 0 ≤ (x6_4 : Int) := of_decide_eq_true (by first | (with_reducible assumption) | assumption)
             have q20 : x6_4 < (x5_6.size : Int) := of_decide_eq_true (by first | (with_reducible assumption) | assumption)
             have hx20 := bt_at x5_6 x6_4
             replace p20 := eq_true p20
             replace q20 := eq_true q20
             have hcz22_0 : wr.cell? ⟨gb128, 0, none⟩ = some (.int .i64 x129000_4) := (kc_ BK128.out 0).trans rfl
             have hcz22_1 : wr.cell? ⟨gb128, 1, none⟩ = some (.slice none 0 0) := (kc_ BK128.out 1).trans rfl
             have hfz22_0 := kf_ BK128.out 0
             have hfz22_1 := kf_ BK128.out 1
             go_wp2
             refine bodyPost_ret (results_ct rfl _ _ gb128 54 #[.int .i64 0, .slice none 0 0] (0, 0) _ rfl (by (with_reducible repeat (first | refine kN_ ?_ _ | refine kd_ ?_ | refine ka_ ?_ _)); refine blk_put (cs := #[.int .i64 0, .slice none 0 0]) ?_ 1 _ rfl; (with_reducible repeat (first | refine kN_ ?_ _ | refine kd_ ?_ | refine ka_ ?_ _)); refine blk_put (cs := #[.int .i64 x129000_4, .slice none 0 0]) ?_ 0 _ rfl; (with_reducible repeat (first | refine kN_ ?_ _ | refine kd_ ?_ | refine ka_ ?_ _)); exact BK128.out) Tryz.underlying54 rfl (by kernel_rfl)) rfl ?_
             exact ⟨_, by first | rfl | (simp [eN_, eS_] <;> rfl) | (simp [*, eN_, eS_] <;> rfl), by first | exact Kd.R_nil _ _ _ _ _ | exact Kd.N_nil _ _ _ _ _ | exact Kd.V_nil _ _ _ _ _ | exact Kd.Q_nil _ _ _ _ _ | exact Kd.S_nil _ _ _ _ _, by repeat (first | (with_reducible first | exact HB.out | apply ba_ | apply pN_ | apply bd_ | refine bs_ ?_ GE128.out) | exact HB.out)⟩
            ·rw [if_neg c21] at H
             have c21b0 : decide ((bt x5_6 x6_4) < 48) = false := decide_eq_false c21
             clear c21
             by_cases c24 : (bt x5_6 x6_4) > 57
             ·rw [if_pos c24] at H
              have c24b0 : decide (57 < (bt x5_6 x6_4)) = true := decide_eq_true c24
              clear c24
              simp only [Option.some.injEq, Prod.mk.injEq] at H
              obtain ⟨rfl, rfl, rfl⟩ := H
              have p20 : 0 ≤ (x6_4 : Int) := of_decide_eq_true (by first | (with_reducible assumption) | assumption)
              have q20 : x6_4 < (x5_6.size : Int) := of_decide_eq_true (by first | (with_reducible assumption) | assumption)
              have hx20 := bt_at x5_6 x6_4
              replace p20 := eq_true p20
              replace q20 := eq_true q20
              have p23 : 0 ≤ (x6_4 : Int) := of_decide_eq_true (by first | (with_reducible assumption) | assumption)
              have q23 : x6_4 < (x5_6.size : Int) := of_decide_eq_true (by first | (with_reducible assumption) | assumption)
              have hx23 := bt_at x5_6 x6_4
              replace p23 := eq_true p23
              replace q23 := eq_true q23
              have hcz25_0 : wr.cell? ⟨gb128, 0, none⟩ = some (.int .i64 x129000_4) := (kc_ BK128.out 0).trans rfl
              have hcz25_1 : wr.cell? ⟨gb128, 1, none⟩ = some (.slice none 0 0) := (kc_ BK128.out 1).trans rfl
              have hfz25_0 := kf_ BK128.out 0
              have hfz25_1 := kf_ BK128.out 1
              go_wp2
              refine bodyPost_ret (results_ct rfl _ _ gb128 54 #[.int .i64 0, .slice none 0 0] (0, 0) _ rfl (by (with_reducible repeat (first | refine kN_ ?_ _ | refine kd_ ?_ | refine ka_ ?_ _)); refine blk_put (cs := #[.int .i64 0, .slice none 0 0]) ?_ 1 _ rfl; (with_reducible repeat (first | refine kN_ ?_ _ | refine kd_ ?_ | refine ka_ ?_ _)); refine blk_put (cs := #[.int .i64 x129000_4, .slice none 0 0]) ?_ 0 _ rfl; (with_reducible repeat (first | refine kN_ ?_ _ | refine kd_ ?_ | refine ka_ ?_ _)); exact BK128.out) Tryz.underlying54 rfl (by kernel_rfl)) rfl ?_
              exact ⟨_, by first | rfl | (simp [eN_, eS_] <;> rfl) | (simp [*, eN_, eS_] <;> rfl), by first | exact Kd.R_nil _ _ _ _ _ | exact Kd.N_nil _ _ _ _ _ | exact Kd.V_nil _ _ _ _ _ | exact Kd.Q_nil _ _ _ _ _ | exact Kd.S_nil _ _ _ _ _, by repeat (first | (with_reducible first | exact HB.out | apply ba_ | apply pN_ | apply bd_ | refine bs_ ?_ GE128.out) | exact HB.out)⟩
             ·rw [if_neg c24] at H
              have c24b0 : decide (57 < (bt x5_6 x6_4)) = false := decide_eq_false c24
              clear c24
              have H' := As_.mk H
              clear H
              have p20 : 0 ≤ (x6_4 : Int) := of_decide_eq_true (by first | (with_reducible assumption) | assumption)
              have q20 : x6_4 < (x5_6.size : Int) := of_decide_eq_true (by first | (with_reducible assumption) | assumption)
              have hx20 := bt_at x5_6 x6_4
              replace p20 := eq_true p20
              replace q20 := eq_true q20
              have p23 : 0 ≤ (x6_4 : Int) := of_decide_eq_true (by first | (with_reducible assumption) | assumption)
              have q23 : x6_4 < (x5_6.size : Int) := of_decide_eq_true (by first | (with_reducible assumption) | assumption)
              have hx23 := bt_at x5_6 x6_4
              replace p23 := eq_true p23
              replace q23 := eq_true q23
              go_wp2
              go_roundg k4
              case measure => have := HJ1.out; have := HJ6.out; have := HJ9.out; have := HK4.out; omega
              case rel => exact ⟨(wrap64 (x6_4 + 1)), (x129000_4), (by first | rfl | (simp; done) | (simp [*]; done)), H', ⟨by have := HJ1.out; have := HJ6.out; have := HJ9.out; have := HK4.out; omega⟩, ⟨by (with_reducible repeat (first | refine kN_ ?_ _ | refine kd_ ?_ | refine ka_ ?_ _)); exact BK128.out⟩, ⟨by repeat (first | (with_reducible first | exact HB.out | apply ba_ | apply pN_ | apply bd_ | refine bs_ ?_ GE128.out) | exact HB.out)⟩⟩
           ·rw [if_neg c19] at H
            exact absurd H (by simp)
          ·rw [if_neg c18] at H
           have c18b0 : decide (x6_4 < (x5_6.size : Int)) = false := decide_eq_false c18
           clear c18
           obtain ⟨y129, hy129⟩ : ∃ y_ : List Int, y_ = (([] : List Int)) := ⟨_, rfl⟩
           replace H : (spec_l02Read.l1 k4 x4_6 x5_6 y129 0) = some (r1, r2, r3) := by first | (rw [hy129]; with_reducible exact H) | (have H2_ := (Option.bind_some _ _).symm.trans H; rw [hy129]; with_reducible exact H2_) | (have H2_ := (Option.bind_some _ _).symm.trans H; with_reducible exact H2_) | with_reducible exact H | (rw [hy129]; exact H) | exact H
           have Ny129 := As_.mk hy129
           clear hy129
           have H' := As_.mk H
           clear H
           go_wp2_with (first | ((with_reducible refine gate_dst (N := 57) rfl ?_); (try (refine gate_guard (by rfl) ?_; dsimp only)); refine Kd.R_lit (Kd.int .i64) _ 2 ?hg (N := 57) ?hd (xs := ([] : List Int)) (inner := []) (ok := fun _ => True) (okp := fun _ => True) ?hr ?hp (fun _ hk => hk) trivial (Below.refl _ _) (Nat.le_refl _) (by simp) ?_; (case hd => rfl); (case hg => rfl); (case hr => first | (go_simp; done) | (go_simp; rfl)); (case hp => exact (Reps.none _ _)); intro v130 w26 ho27 hb hg_ hnew_; clear hg_ hnew_; (first | rw [← Ny129.out] at ho27 | (simp only [Int.reduceToNat] at ho27; rw [← Ny129.out] at ho27)); have n0_ := As_.mk (Kd.R_lower ho27 (bz_ (by repeat (first | (with_reducible first | exact HB.out | apply ba_ | apply pN_ | apply bd_ | refine bs_ ?_ GE128.out) | exact HB.out)))); have n1_ := As_.mk (kb_ (g := gb128) (o := .cells #[.int .i64 x129000_4, .slice none 0 0] 54 (0, 0)) (by (with_reducible repeat (first | refine kN_ ?_ _ | refine kd_ ?_ | refine ka_ ?_ _)); exact BK128.out) hb); have n2_ := As_.mk (bp_ (by repeat (first | (with_reducible first | exact HB.out | apply ba_ | apply pN_ | apply bd_ | refine bs_ ?_ GE128.out) | exact HB.out)) hb); clear BK128; clear HB; have HO131 := n0_; have BK128 := n1_; have HB := n2_; clear n0_ n1_ n2_; clear hb ho27))
           go_loopg [7, 8] k4 (fun kq v7 v8 w' => ∃ (x7_5 : List Int) (x8_5 : Int), v8 = .int .i64 x8_5 ∧ As_ (spec_l02Read.l1 kq x4_6 x5_6 x7_5 x8_5 = some (r1, r2, r3)) ∧ As_ (kq ≤ k4) ∧ As_ (Kd.R (Kd.int .i64) 2 w' w.heap.size (fun _ => True) v7 x7_5) ∧ As_ (w'.heap[gb128]? = some (.cells #[.int .i64 x129000_4, (.slice none 0 0)] 54 (0, 0))) ∧ As_ (Below w.heap.size w w'))
           case atStart => exact ⟨(y129), (0), (by first | rfl | (simp; done) | (simp [*]; done)), H', ⟨Nat.le_refl _⟩, ⟨by (with_reducible repeat (first | apply Kd.R_alloc | apply Kd.R_drewN | apply Kd.R_drew)); exact HO131.out⟩, ⟨by (with_reducible repeat (first | refine kN_ ?_ _ | refine kd_ ?_ | refine ka_ ?_ _)); exact BK128.out⟩, ⟨by repeat (first | (with_reducible first | exact HB.out | apply ba_ | apply pN_ | apply bd_ | refine bs_ ?_ GE128.out) | exact HB.out)⟩⟩
           case round =>
            clear H'
            try clear c1
            try clear p1
            try clear q1
            try clear hx1
            try clear qi1
            try clear c2
            try clear p2
            try clear q2
            try clear hx2
            try clear c4
            try clear c4b0
            try clear c4b1
            try clear c5
            try clear c5b0
            try clear c5b1
            try clear p6
            try clear q6
            try clear hx6
            try clear qi6
            try clear c8
            try clear c9
            try clear c9b0
            try clear c9b1
            try clear c11
            try clear c11b0
            try clear c11b1
            try clear c12
            try clear c12b0
            try clear c12b1
            try clear p13
            try clear q13
            try clear hx13
            try clear qi13
            try clear c14
            try clear c14b0
            try clear c14b1
            try clear c15
            try clear c15b0
            try clear c15b1
            try clear c16
            try clear c18
            try clear c18b0
            try clear c19
            try clear c19b0
            try clear p20
            try clear q20
            try clear hx20
            try clear c21
            try clear c21b0
            try clear c23
            try clear p23
            try clear q23
            try clear hx23
            try clear c24
            try clear c24b0
            try clear hcz17_0
            try clear hcz17_1
            try clear hcz22_0
            try clear hcz22_1
            try clear hcz25_0
            try clear hcz25_1
            try clear hfz17_0
            try clear hfz17_1
            try clear hfz22_0
            try clear hfz22_1
            try clear hfz25_0
            try clear hfz25_1
            try clear p1
            try clear p13
            try clear p2
            try clear p20
            try clear p23
            try clear p6
            try clear q1
            try clear q13
            try clear q20
            try clear q23
            try clear q6
            obtain ⟨x7_5, x8_5, rfl, HA, HK5, HO_7, BK128, HB⟩ := hrel
            cases gk with
            | zero => exact absurd HA.out (by simp [spec_l02Read.l1])
            | succ k5 =>
             have H := HA.out
             clear HA
             simp only [spec_l02Read.l1] at H
             have HC28 := As_.mk H
             clear H
             go_upto_region 14 with (fail)
             go_cut [65] (fun v65 wc => ∃ (kq : Nat) (x65_27 : Bool), v65 = .bool x65_27 ∧ As_ (spec_l02Read.j5 kq x4_6 x5_6 x7_5 x8_5 x65_27 = some (r1, r2, r3)) ∧ As_ (kq ≤ k5) ∧ As_ (Kd.R (Kd.int .i64) 2 wc w.heap.size (fun _ => True) u7 x7_5) ∧ As_ (wc.heap[gb128]? = some (.cells #[.int .i64 x129000_4, (.slice none 0 0)] 54 (0, 0))) ∧ As_ (Below w.heap.size w wc))
             case first =>
              have H := HC28.out
              clear HC28
              by_cases c29 : x8_5 < (x5_6.size : Int)
              ·rw [if_pos c29] at H
               have c29b0 : decide (x8_5 < (x5_6.size : Int)) = true := decide_eq_true c29
               clear c29
               (first | rw [c29b0] | (simp only [i64_w, i32_w]; rw [c29b0]) | skip)
               have H' := As_.mk H
               clear H
               go_wp2
               go_meet
               case rel => exact ⟨_, (decide (x8_5 < 1000)), (by first | rfl | (simp; done) | (simp [*]; done)), H', ⟨by have := HJ1.out; have := HJ6.out; have := HJ9.out; have := HK4.out; have := HK5.out; first | omega | exact Nat.le_refl _⟩, ⟨by (with_reducible repeat (first | apply Kd.R_alloc | apply Kd.R_drewN | apply Kd.R_drew)); exact HO_7.out⟩, ⟨by (with_reducible repeat (first | refine kN_ ?_ _ | refine kd_ ?_ | refine ka_ ?_ _)); exact BK128.out⟩, ⟨by repeat (first | (with_reducible first | exact HB.out | apply ba_ | apply pN_ | apply bd_ | refine bs_ ?_ GE128.out) | exact HB.out)⟩⟩
              ·rw [if_neg c29] at H
               have c29b0 : decide (x8_5 < (x5_6.size : Int)) = false := decide_eq_false c29
               clear c29
               (first | rw [c29b0] | (simp only [i64_w, i32_w]; rw [c29b0]) | skip)
               have H' := As_.mk H
               clear H
               go_wp2
               go_meet
               case rel => exact ⟨_, (false), (by first | rfl | (simp; done) | (simp [*]; done)), H', ⟨by have := HJ1.out; have := HJ6.out; have := HJ9.out; have := HK4.out; have := HK5.out; first | omega | exact Nat.le_refl _⟩, ⟨by (with_reducible repeat (first | apply Kd.R_alloc | apply Kd.R_drewN | apply Kd.R_drew)); exact HO_7.out⟩, ⟨by (with_reducible repeat (first | refine kN_ ?_ _ | refine kd_ ?_ | refine ka_ ?_ _)); exact BK128.out⟩, ⟨by repeat (first | (with_reducible first | exact HB.out | apply ba_ | apply pN_ | apply bd_ | refine bs_ ?_ GE128.out) | exact HB.out)⟩⟩
             case rest =>
              clear HC28
              try clear c1
              try clear p1
              try clear q1
              try clear hx1
              try clear qi1
              try clear c2
              try clear p2
              try clear q2
              try clear hx2
              try clear c4
              try clear c4b0
              try clear c4b1
              try clear c5
              try clear c5b0
              try clear c5b1
              try clear p6
              try clear q6
              try clear hx6
              try clear qi6
              try clear c8
              try clear c9
              try clear c9b0
              try clear c9b1
              try clear c11
              try clear c11b0
              try clear c11b1
              try clear c12
              try clear c12b0
              try clear c12b1
              try clear p13
              try clear q13
              try clear hx13
              try clear qi13
              try clear c14
              try clear c14b0
              try clear c14b1
              try clear c15
              try clear c15b0
              try clear c15b1
              try clear c16
              try clear c18
              try clear c18b0
              try clear c19
              try clear c19b0
              try clear p20
              try clear q20
              try clear hx20
              try clear c21
              try clear c21b0
              try clear c23
              try clear p23
              try clear q23
              try clear hx23
              try clear c24
              try clear c24b0
              try clear c29
              try clear c29b0
              try clear hcz17_0
              try clear hcz17_1
              try clear hcz22_0
              try clear hcz22_1
              try clear hcz25_0
              try clear hcz25_1
              try clear hfz17_0
              try clear hfz17_1
              try clear hfz22_0
              try clear hfz22_1
              try clear hfz25_0
              try clear hfz25_1
              try clear p1
              try clear p13
              try clear p2
              try clear p20
              try clear p23
              try clear p6
              try clear q1
              try clear q13
              try clear q2
              try clear q20
              try clear q23
              try clear q6
              obtain ⟨kq, x65_27, rfl, HA, HJ27, HO_7, BK128, HB⟩ := hcut
              cases kq with
              | zero => exact absurd HA.out (by simp [spec_l02Read.j5])
              | succ kj27 =>
               have H := HA.out
               clear HA
               simp only [spec_l02Read.j5] at H
               by_cases c30 : x65_27 = true
               ·subst c30
                have H1 : (if 0 ≤ x8_5 then (if x8_5 < (x5_6.size : Int) then (spec_l02Read.l2 kj27 x4_6 x5_6 x7_5 x8_5 (((bt x5_6 x8_5) - 48) % 256) 0) else (none)) else (none)) = some (r1, r2, r3) := by rw [if_pos rfl] at H; exact H
                clear H
                have H := H1
                clear H1
                by_cases c31 : 0 ≤ x8_5
                ·rw [if_pos c31] at H
                 have c31b0 : decide (0 ≤ x8_5) = true := decide_eq_true c31
                 clear c31
                 by_cases c32 : x8_5 < (x5_6.size : Int)
                 ·rw [if_pos c32] at H
                  have c32b0 : decide (x8_5 < (x5_6.size : Int)) = true := decide_eq_true c32
                  clear c32
                  have H' := As_.mk H
                  clear H
                  have p33 : 0 ≤ (x8_5 : Int) := of_decide_eq_true (by first | (with_reducible assumption) | assumption)
                  have q33 : x8_5 < (x5_6.size : Int) := of_decide_eq_true (by first | (with_reducible assumption) | assumption)
                  have hx33 := bt_at x5_6 x8_5
                  replace p33 := eq_true p33
                  replace q33 := eq_true q33
                  go_wp2
                  go_loopg [9, 10] kj27 (fun kq v9 v10 w' => ∃ (x7_7 : List Int) (x9_7 : Int) (x10_7 : Int), v9 = .int .i64 x9_7 ∧ v10 = .int .i64 x10_7 ∧ As_ (spec_l02Read.l2 kq x4_6 x5_6 x7_7 x8_5 x9_7 x10_7 = some (r1, r2, r3)) ∧ As_ (kq ≤ kj27) ∧ As_ (Kd.R (Kd.int .i64) 2 w' w.heap.size (fun _ => True) u7 x7_7) ∧ As_ (w'.heap[gb128]? = some (.cells #[.int .i64 x129000_4, (.slice none 0 0)] 54 (0, 0))) ∧ As_ (Below w.heap.size w w'))
                  case atStart => exact ⟨(x7_5), (((bt x5_6 x8_5) - 48) % 256), (0), (by first | rfl | (simp; done) | (simp [*]; done)), (by first | rfl | (simp; done) | (simp [*]; done)), H', ⟨Nat.le_refl _⟩, ⟨by (with_reducible repeat (first | apply Kd.R_alloc | apply Kd.R_drewN | apply Kd.R_drew)); exact HO_7.out⟩, ⟨by (with_reducible repeat (first | refine kN_ ?_ _ | refine kd_ ?_ | refine ka_ ?_ _)); exact BK128.out⟩, ⟨by repeat (first | (with_reducible first | exact HB.out | apply ba_ | apply pN_ | apply bd_ | refine bs_ ?_ GE128.out) | exact HB.out)⟩⟩
                  case round =>
                   clear H'
                   try clear c1
                   try clear p1
                   try clear q1
                   try clear hx1
                   try clear qi1
                   try clear c2
                   try clear p2
                   try clear q2
                   try clear hx2
                   try clear c3
                   try clear p3
                   try clear q3
                   try clear hx3
                   try clear c4
                   try clear c4b0
                   try clear c4b1
                   try clear c5
                   try clear c5b0
                   try clear c5b1
                   try clear p6
                   try clear q6
                   try clear hx6
                   try clear qi6
                   try clear c8
                   try clear c9
                   try clear c9b0
                   try clear c9b1
                   try clear c11
                   try clear c11b0
                   try clear c11b1
                   try clear c12
                   try clear c12b0
                   try clear c12b1
                   try clear p13
                   try clear q13
                   try clear hx13
                   try clear qi13
                   try clear c14
                   try clear c14b0
                   try clear c14b1
                   try clear c15
                   try clear c15b0
                   try clear c15b1
                   try clear c16
                   try clear c18
                   try clear c18b0
                   try clear c19
                   try clear c19b0
                   try clear p20
                   try clear q20
                   try clear hx20
                   try clear c21
                   try clear c21b0
                   try clear c23
                   try clear p23
                   try clear q23
                   try clear hx23
                   try clear c24
                   try clear c24b0
                   try clear c29
                   try clear c29b0
                   try clear c30
                   try clear c31
                   try clear c31b0
                   try clear c32
                   try clear c32b0
                   try clear p33
                   try clear q33
                   try clear hx33
                   try clear hcz17_0
                   try clear hcz17_1
                   try clear hcz22_0
                   try clear hcz22_1
                   try clear hcz25_0
                   try clear hcz25_1
                   try clear hfz17_0
                   try clear hfz17_1
                   try clear hfz22_0
                   try clear hfz22_1
                   try clear hfz25_0
                   try clear hfz25_1
                   try clear p1
                   try clear p13
                   try clear p2
                   try clear p20
                   try clear p23
                   try clear p33
                   try clear p6
                   try clear q1
                   try clear q13
                   try clear q2
                   try clear q20
                   try clear q23
                   try clear q33
                   try clear q6
                   obtain ⟨x7_7, x9_7, x10_7, rfl, rfl, HA, HK7, HO_7, BK128, HB⟩ := hrel
                   cases gk with
                   | zero => exact absurd HA.out (by simp [spec_l02Read.l2])
                   | succ k7 =>
                    have H := HA.out
                    clear HA
                    simp only [spec_l02Read.l2] at H
                    by_cases c34 : x10_7 < (x7_7.length : Int)
                    ·rw [if_pos c34] at H
                     have c34b0 : decide (x10_7 < (x7_7.length : Int)) = true := decide_eq_true c34
                     clear c34
                     by_cases c35 : 0 ≤ x10_7
                     ·rw [if_pos c35] at H
                      have c35b0 : decide (0 ≤ x10_7) = true := decide_eq_true c35
                      clear c35
                      obtain ⟨y137, hy137⟩ : ∃ y_ : List Int, y_ = (x7_7.set (x10_7 : Int).toNat (Int.tmod (wrap64 (x9_7 + (wrap64 (10 * (rd x7_7 x10_7))))) 16777216)) := ⟨_, rfl⟩
                      replace H : (spec_l02Read.l2 k7 x4_6 x5_6 y137 x8_5 (wrap64 (Int.tdiv (wrap64 (x9_7 + (wrap64 (10 * (rd x7_7 x10_7))))) 16777216)) (wrap64 (x10_7 + 1))) = some (r1, r2, r3) := by first | (rw [hy137]; with_reducible exact H) | (have H2_ := (Option.bind_some _ _).symm.trans H; rw [hy137]; with_reducible exact H2_) | (have H2_ := (Option.bind_some _ _).symm.trans H; with_reducible exact H2_) | with_reducible exact H | (rw [hy137]; exact H) | exact H
                      have Ny137 := As_.mk hy137
                      clear hy137
                      have H' := As_.mk H
                      clear H
                      obtain ⟨Ao37, co37, eo37⟩ := Kd.R_slice HO_7.out
                      subst eo37
                      have p136 : 0 ≤ (x10_7 : Int) := of_decide_eq_true (by first | (with_reducible assumption) | assumption)
                      have q136 : x10_7 < (x7_7.length : Int) := of_decide_eq_true (by first | (with_reducible assumption) | assumption)
                      obtain ⟨ad136, e136, hx136_0⟩ := Kd.at_int (Kd.R_reads' HO_7.out).2.2 x10_7 p136 q136
                      cases e136
                      replace p136 := eq_true p136
                      replace q136 := eq_true q136
                      have p36 : 0 ≤ (x10_7 : Int) := of_decide_eq_true (by first | (with_reducible assumption) | assumption)
                      have q36 : (x10_7 : Int) < ((x7_7.length : Int) : Int) := of_decide_eq_true (by first | (with_reducible assumption) | assumption)
                      obtain ⟨go36, co36, eo36, gb36, gl36, cl36, HG36⟩ := Kd.R_form HO_7.out (by omega)
                      (first | cases eo36 | (injection eo36 with ea_ en_ ec_; (first | subst ea_ | (injection ea_ with ea_; subst ea_)); subst ec_; clear en_))
                      have GB36 := As_.mk gb36
                      have GG36 := As_.mk HG36
                      clear gb36 gl36 HG36
                      (first | simp only [add_plain] at hx136_0 | skip)
                      obtain ⟨hx36_0, hf36_0⟩ := Kd.R_celln 0 HO_7.out (x10_7 : Int) p36 q36
                      replace p36 := eq_true p36
                      replace q36 := eq_true q36
                      have HP38 := Kd.R_putg HO_7.out (x10_7 : Int) (Int.tmod (wrap64 (x9_7 + (wrap64 (10 * (rd x7_7 x10_7))))) 16777216)
                      go_wp2_with (first | ((with_reducible refine gate_store (t := 2) (p := 90) rfl ?_); refine store_event (t := 2) (p := 90) (v := ?vo_w39) (w1 := (wr.setCell ⟨go36, (x10_7 : Int).toNat, none⟩ (.int .i64 (Int.tmod (wrap64 (x9_7 + (wrap64 (10 * (rd x7_7 x10_7))))) 16777216)))) ?hg ?ho ?hn ?hr ?_; (case ho => rfl); (case hg => rfl); (case hn => rfl); (case hr => first | (go_simp; done) | (go_simp; rfl)); intro w39 hw; have hg : wr.grownBy w39 (some go36) := (by rw [hw]; exact HP38.2); have hp_ : Kd.R (Kd.int .i64) 2 w39 w.heap.size (fun _ => True) (.slice (some ⟨go36, 0, none⟩) x7_7.length co37) y137 := (by rw [hw, Ny137.out]; exact HP38.1); clear HP38; have n0_ := As_.mk (hp_); have n1_ := As_.mk (blk_grown (g := gb128) (o := .cells #[.int .i64 x129000_4, .slice none 0 0] 54 (0, 0)) (by (with_reducible repeat (first | refine kN_ ?_ _ | refine kd_ ?_ | refine ka_ ?_ _)); exact BK128.out) hg (Kd.R_ne HO_7.out BK128.out (by decide))); have n2_ := As_.mk ((by rw [hw]; exact bs_ (HB.out) GB36.out : Below w.heap.size w w39)); clear HO_7; clear BK128; clear HB; have HO_7 := n0_; have BK128 := n1_; have HB := n2_; clear n0_ n1_ n2_; clear hg hw hp_))
                      go_roundg k7
                      case measure => have := HJ1.out; have := HJ6.out; have := HJ9.out; have := HK4.out; have := HK5.out; have := HJ27.out; have := HK7.out; omega
                      case rel => exact ⟨(y137), (wrap64 (Int.tdiv (wrap64 (x9_7 + (wrap64 (10 * (rd x7_7 x10_7))))) 16777216)), (wrap64 (x10_7 + 1)), (by first | rfl | (simp; done) | (simp [*]; done)), (by first | rfl | (simp; done) | (simp [*]; done)), H', ⟨by have := HJ1.out; have := HJ6.out; have := HJ9.out; have := HK4.out; have := HK5.out; have := HJ27.out; have := HK7.out; omega⟩, ⟨by (with_reducible repeat (first | apply Kd.R_alloc | apply Kd.R_drewN | apply Kd.R_drew)); exact HO_7.out⟩, ⟨by (with_reducible repeat (first | refine kN_ ?_ _ | refine kd_ ?_ | refine ka_ ?_ _)); exact BK128.out⟩, ⟨by repeat (first | (with_reducible first | exact HB.out | apply ba_ | apply pN_ | apply bd_ | refine bs_ ?_ GE128.out) | exact HB.out)⟩⟩
                     ·rw [if_neg c35] at H
                      exact absurd H (by simp)
                    ·rw [if_neg c34] at H
                     have c34b0 : decide (x10_7 < (x7_7.length : Int)) = false := decide_eq_false c34
                     clear c34
                     by_cases c40 : x9_7 > 0
                     ·rw [if_pos c40] at H
                      have c40b0 : decide (0 < x9_7) = true := decide_eq_true c40
                      clear c40
                      by_cases c41 : x7_7.length < 17592186044416
                      ·rw [if_pos c41] at H
                       have LMc41 := As_.mk c41
                       clear c41
                       obtain ⟨y138, hy138⟩ : ∃ y_ : List Int, y_ = (x7_7 ++ [x9_7]) := ⟨_, rfl⟩
                       replace H : (spec_l02Read.l1 k7 x4_6 x5_6 y138 (wrap64 (x8_5 + 1))) = some (r1, r2, r3) := by first | (rw [hy138]; with_reducible exact H) | (have H2_ := (Option.bind_some _ _).symm.trans H; rw [hy138]; with_reducible exact H2_) | (have H2_ := (Option.bind_some _ _).symm.trans H; with_reducible exact H2_) | with_reducible exact H | (rw [hy138]; exact H) | exact H
                       have Ny138 := As_.mk hy138
                       clear hy138
                       have H' := As_.mk H
                       clear H
                       obtain ⟨Ao42, co42, eo42⟩ := Kd.R_slice HO_7.out
                       subst eo42
                       go_wp2_with (first | ((with_reducible refine gate_builtin (b := .append) (xs := #[.tmp 95, .tmp 97]) rfl ?_); (try (refine gate_guard (by rfl) ?_; dsimp only)); at_builtin; refine Kd.R_append (Kd.int .i64) (w0 := w) w.heap.size rfl (.tmp 95) (.tmp 97) 52 2 (.int .i64 0) 8 rfl Tryz.underlying52 info2 rfl (by decide) (by omega) (.slice Ao42 x7_7.length co42) x7_7 x9_7 [.int .i64 x9_7] (fun _ => True) (fun _ => False) rfl rfl ?aP (fun _ hk => hk.elim) ?aF ?aO ?aB ?aS ?aL ?_; (case aP => exact rfl); (case aB => exact (by repeat (first | (with_reducible first | exact HB.out | apply ba_ | apply pN_ | apply bd_ | refine bs_ ?_ GE128.out) | exact HB.out))); (case aF => exact (fun _ _ => trivial)); (case aO => exact (by (with_reducible repeat (first | apply Kd.R_alloc | apply Kd.R_drewN | apply Kd.R_drew)); exact HO_7.out)); (case aS => exact (bz_ (by repeat (first | (with_reducible first | exact HB.out | apply ba_ | apply pN_ | apply bd_ | refine bs_ ?_ GE128.out) | exact HB.out)))); (case aL => have := LMc41.out; omega); intro v139 w43 ho hb hg hat; rw [← Ny138.out] at ho; have n0_ := As_.mk (blk_grown (g := gb128) (o := .cells #[.int .i64 x129000_4, .slice none 0 0] 54 (0, 0)) (by (with_reducible repeat (first | refine kN_ ?_ _ | refine kd_ ?_ | refine ka_ ?_ _)); exact BK128.out) hg (Kd.R_ne HO_7.out BK128.out (by decide))); have n1_ := As_.mk (hb); have n2_ := As_.mk (ho); clear BK128; clear HB; clear HO_7; have BK128 := n0_; have HB := n1_; have HO140 := n2_; clear n0_ n1_ n2_; clear ho hb hg hat))
                       go_roundg k7
                       case measure => have := HJ1.out; have := HJ6.out; have := HJ9.out; have := HK4.out; have := HK5.out; have := HJ27.out; have := HK7.out; omega
                       case rel => exact ⟨(y138), (wrap64 (x8_5 + 1)), (by first | rfl | (simp; done) | (simp [*]; done)), H', ⟨by have := HJ1.out; have := HJ6.out; have := HJ9.out; have := HK4.out; have := HK5.out; have := HJ27.out; have := HK7.out; omega⟩, ⟨by (with_reducible repeat (first | apply Kd.R_alloc | apply Kd.R_drewN | apply Kd.R_drew)); exact HO140.out⟩, ⟨by (with_reducible repeat (first | refine kN_ ?_ _ | refine kd_ ?_ | refine ka_ ?_ _)); exact BK128.out⟩, ⟨by repeat (first | (with_reducible first | exact HB.out | apply ba_ | apply pN_ | apply bd_ | refine bs_ ?_ GE128.out) | exact HB.out)⟩⟩
                      ·rw [if_neg c41] at H
                       exact absurd H (by simp)
                     ·rw [if_neg c40] at H
                      have c40b0 : decide (0 < x9_7) = false := decide_eq_false c40
                      clear c40
                      have H' := As_.mk H
                      clear H
                      obtain ⟨Ao44, co44, eo44⟩ := Kd.R_slice HO_7.out
                      subst eo44
                      go_wp2
                      go_roundg k7
                      case measure => have := HJ1.out; have := HJ6.out; have := HJ9.out; have := HK4.out; have := HK5.out; have := HJ27.out; have := HK7.out; omega
                      case rel => exact ⟨(x7_7), (wrap64 (x8_5 + 1)), (by first | rfl | (simp; done) | (simp [*]; done)), H', ⟨by have := HJ1.out; have := HJ6.out; have := HJ9.out; have := HK4.out; have := HK5.out; have := HJ27.out; have := HK7.out; omega⟩, ⟨by (with_reducible repeat (first | apply Kd.R_alloc | apply Kd.R_drewN | apply Kd.R_drew)); exact HO_7.out⟩, ⟨by (with_reducible repeat (first | refine kN_ ?_ _ | refine kd_ ?_ | refine ka_ ?_ _)); exact BK128.out⟩, ⟨by repeat (first | (with_reducible first | exact HB.out | apply ba_ | apply pN_ | apply bd_ | refine bs_ ?_ GE128.out) | exact HB.out)⟩⟩
                 ·rw [if_neg c32] at H
                  exact absurd H (by simp)
                ·rw [if_neg c31] at H
                 exact absurd H (by simp)
               ·replace c30 := Bool.eq_false_iff.mpr c30
                subst c30
                have H1 : ((spec_l02Make.f kj27 x4_6 x7_5).bind fun bt132 => (some (bt132.1, bt132.2, true))) = some (r1, r2, r3) := by rw [if_neg (show ¬ (false = true) by decide)] at H; exact H
                clear H
                have H := H1
                clear H1
                replace H := Option.bind_eq_some_iff.mp H
                obtain ⟨⟨t132, t133⟩, A450, H⟩ := H
                replace H : (some (t132, t133, true)) = some (r1, r2, r3) := H
                have A45 := As_.mk A450
                clear A450
                simp only [Option.some.injEq, Prod.mk.injEq] at H
                obtain ⟨rfl, rfl, rfl⟩ := H
                obtain ⟨Ao46, co46, eo46⟩ := Kd.R_slice HO_7.out
                subst eo46
                go_wp2_with (first | ((with_reducible refine gate_callee (f := 212) rfl ?_); refine goesL_ (some 101) rfl rfl Tryz.func212 (by kernel_rfl) rfl #[.int .i64 x4_6, .slice Ao46 x7_5.length co46] rfl (by (try simp only [List.map_toArray, List.map_cons, List.map_nil]); first | done | rfl | (simp only [List.length_drop, List.length_take]; rfl)) ?_; (with_reducible refine (spec_l02Make.calls kj27 x4_6 _ _ x7_5 t132 t133 _ ?side1 ?side2 A45.out).mono ?_); (case side1 => repeat (first | exact (Kd.R_reads' HO_7.out).2.2 | (with_reducible refine Kd.C_alloc ?_ _) | (with_reducible refine Kd.C_drewN ?_ _) | (with_reducible refine Kd.C_drew ?_))); (case side2 => exact (Kd.R_reads' HO_7.out).2.1); rintro e w47 ⟨v134, rfl, ho0, hb⟩; refine ⟨_, rfl, ?_⟩; have n0_ := As_.mk (Kd.R_elder' (by (with_reducible repeat (first | apply Kd.R_alloc | apply Kd.R_drewN | apply Kd.R_drew)); exact HO_7.out) (Kd.R_base ho0) hb); have n1_ := As_.mk (Kd.R_lower (Kd.R_new' ho0 (Kd.R_lt (by (with_reducible repeat (first | apply Kd.R_alloc | apply Kd.R_drewN | apply Kd.R_drew)); exact HO_7.out))) (bz_ (by repeat (first | (with_reducible first | exact HB.out | apply ba_ | apply pN_ | apply bd_ | refine bs_ ?_ GE128.out) | exact HB.out)))); have n2_ := As_.mk (kb_ (g := gb128) (o := .cells #[.int .i64 x129000_4, .slice none 0 0] 54 (0, 0)) (by (with_reducible repeat (first | refine kN_ ?_ _ | refine kd_ ?_ | refine ka_ ?_ _)); exact BK128.out) hb); have n3_ := As_.mk (bp_ (by repeat (first | (with_reducible first | exact HB.out | apply ba_ | apply pN_ | apply bd_ | refine bs_ ?_ GE128.out) | exact HB.out)) hb); clear HO_7; clear BK128; clear HB; have HO_7 := n0_; have HO135 := n1_; have BK128 := n2_; have HB := n3_; clear n0_ n1_ n2_ n3_; (try clear hb); (try clear hb2); (try clear hk); (try clear hi); (try clear ho0); have hcz48_0 : w47.cell? ⟨gb128, 0, none⟩ = some (.int .i64 x129000_4) := (kc_ BK128.out 0).trans rfl; have hcz48_1 : w47.cell? ⟨gb128, 1, none⟩ = some (.slice none 0 0) := (kc_ BK128.out 1).trans rfl; have hfz48_0 := kf_ BK128.out 0; have hfz48_1 := kf_ BK128.out 1; obtain ⟨Ao49, co49, eo49⟩ := Kd.R_slice HO135.out; subst eo49))
                refine bodyPost_ret (results_ct rfl _ _ gb128 54 #[.int .i64 t132, .slice Ao49 t133.length co49] (0, 0) _ rfl (by (with_reducible repeat (first | refine kN_ ?_ _ | refine kd_ ?_ | refine ka_ ?_ _)); refine blk_put (cs := #[.int .i64 t132, .slice none 0 0]) ?_ 1 _ rfl; (with_reducible repeat (first | refine kN_ ?_ _ | refine kd_ ?_ | refine ka_ ?_ _)); refine blk_put (cs := #[.int .i64 x129000_4, .slice none 0 0]) ?_ 0 _ rfl; (with_reducible repeat (first | refine kN_ ?_ _ | refine kd_ ?_ | refine ka_ ?_ _)); exact BK128.out) Tryz.underlying54 rfl (by kernel_rfl)) rfl ?_
                exact ⟨_, by first | rfl | (simp [eN_, eS_] <;> rfl) | (simp [*, eN_, eS_] <;> rfl), by (with_reducible repeat (first | apply Kd.R_alloc | apply Kd.R_drewN | apply Kd.R_drew)); exact Kd.R_mono (Kd.R_far (p := ⟨gb128, 1, none⟩) (Kd.R_far (p := ⟨gb128, 0, none⟩) (Kd.R_types HO135.out BK128.out (by decide)) (fun _ hk => hk.2) (.int .i64 t132)) (fun _ hk => hk.2) (.slice Ao49 t133.length co49)) (fun _ hk => trivial), by repeat (first | (with_reducible first | exact HB.out | apply ba_ | apply pN_ | apply bd_ | refine bs_ ?_ GE128.out) | exact HB.out)⟩
end Go.Proofs.YtlogcnglmdpejaaGreatDoor.Pq
end
