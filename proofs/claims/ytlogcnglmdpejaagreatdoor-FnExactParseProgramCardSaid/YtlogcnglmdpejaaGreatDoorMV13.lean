/- Part 13 of the proof of the card of FnExactV: walks of the functions and plain facts on them. -/
import Derived.Test.YtlogcnglmdpejaaGreatDoorMV3
import Derived.Test.YtlogcnglmdpejaaGreatDoorMV10
import Derived.Test.YtlogcnglmdpejaaGreatDoorMV12
section
namespace Go.Proofs.YtlogcnglmdpejaaGreatDoor.Pq
open Go.RowKit Go.Proofs.YtlogcnglmdpejaaGreatDoorW.PrintWords Go.Proofs.YtlogcnglmdpejaaGreatDoorW.PrintLast Go.Proofs.YtlogcnglmdpejaaGreatDoorW.PrintMore
attribute [local go_sem] max2_int min2_int max_two min_two max_three min_three max_four min_four
set_option linter.unusedVariables false
set_option linter.unusedSimpArgs false
mutual
def spec_l03Read.j1 : Nat → ByteArray → Int → Option (Int × List Int × Int × Bool)
 | 0, _, _ => none
 | k + 1, x0, x4 => if x4 = (x0.size : Int) then (some (0, ([] : List Int), 0, false)) else (if 0 ≤ x4 then (if x4 ≤ (x0.size : Int) then ((spec_l02Read.f k (x0.extract 0 (x4 : Int).toNat)).bind fun bt142 => (if 0 ≤ (wrap64 (x4 + 1)) then (if (wrap64 (x4 + 1)) ≤ (x0.size : Int) then ((spec_l02Read.f k (x0.extract ((wrap64 (x4 + 1)) : Int).toNat x0.size)).bind fun bt148 => (if bt142.2.2 = true then (if bt148.2.2 = true then ((spec_l02Is.f k bt142.1 bt142.2.1).bind fun t154 => (if t154 = true then (spec_l03Read.j2 k (decide ((bt148.2.1.length : Int) > 1)) bt142.1 bt142.2.1 bt148.1 bt148.2.1) else (spec_l03Read.j2 k true bt142.1 bt142.2.1 bt148.1 bt148.2.1))) else (spec_l03Read.j2 k true bt142.1 bt142.2.1 bt148.1 bt148.2.1)) else (spec_l03Read.j2 k true bt142.1 bt142.2.1 bt148.1 bt148.2.1))) else (none)) else (none))) else (none)) else (none))
def spec_l03Read.j2 : Nat → Bool → Int → List Int → Int → List Int → Option (Int × List Int × Int × Bool)
 | 0, _, _, _, _, _ => none
 | k + 1, x58, x148000, x148001, x154000, x154001 => if x58 = true then (some (0, ([] : List Int), 0, false)) else (if (x154001.length : Int) = 1 then (if 0 < (x154001.length : Int) then ((spec_l03Is.f k x148000 x148001 (wrap64 (x154000 * (rd x154001 0)))).bind fun t157 => (some (x148000, x148001, wrap64 (x154000 * (rd x154001 0)), t157))) else (none)) else ((spec_l03Is.f k x148000 x148001 0).bind fun t158 => (some (x148000, x148001, 0, t158))))
def spec_l03Read.l0 : Nat → ByteArray → Int → Option (Int × List Int × Int × Bool)
 | 0, _, _ => none
 | k + 1, x0, x4 => if x4 < (x0.size : Int) then (if 0 ≤ x4 then (if (bt x0 x4) = 112 then (spec_l03Read.j1 k x0 x4) else (spec_l03Read.l0 k x0 (wrap64 (x4 + 1)))) else (none)) else (spec_l03Read.j1 k x0 x4)
end
def spec_l03Read.f (k : Nat) (a0 : ByteArray) : Option (Int × List Int × Int × Bool) := spec_l03Read.l0 k a0 0
def spec_l03Read.T12 : Bool × List (List Nat × List Nat) := (true, [([], []), ([0], [0]), ([], []), ([2], [2]), ([3], [3]), ([4], [4]), ([1, 5], [1, 5]), ([0, 1, 2, 3, 4, 5, 6], []), ([7, 6, 0, 1, 2, 3, 4, 5, 6], [6, 7])])
def spec_l03Read.B12 : List Nat := [0, 1, 0, 4, 12, 28, 63, 127, 255]
theorem spec_l03Read.tab12 : rtab .any (opsOf Tryz.f189 12) = spec_l03Read.T12 := by kernel_rfl
theorem spec_l03Read.bits12 : waitsOk spec_l03Read.T12.2 spec_l03Read.B12 = true := by kernel_rfl
set_option maxHeartbeats 8000000 in
set_option maxRecDepth 100000 in
theorem spec_l03Read.calls (k : Nat) (a0 : ByteArray) (r1 : Int) (r2 : List Int) (r3 : Int) (r4 : Bool) (w : World) (h : spec_l03Read.f k a0 = some (r1, r2, r3, r4)) :
  Calls Tryz.prog 189 #[.string a0] w fun e w' => ∃ v1_ : Value, e = .returned (.tuple #[.agg #[.int .i64 r1, v1_, .int .i64 r3], .bool r4]) ∧ Kd.R (Kd.int .i64) 2 w' w.heap.size (fun _ => True) v1_ r2 ∧ Below w.heap.size w w' := by
 have hu56 := Tryz.underlying56
 have hu54 := Tryz.underlying54
 have HB := As_.mk (Below.refl w.heap.size w)
 have H : (spec_l03Read.l0 k a0 0) = some (r1, r2, r3, r4) := h
 clear h
 have HC2 := As_.mk H
 clear H
 go_enter Tryz.func189, Tryz.ntmps189
 go_upto_block 0 with (first | ((with_reducible refine gate_dst (N := 2) rfl ?_); (try (refine gate_guard (by rfl) ?_; dsimp only)); refine box_event ?hg (N := 2) ?hd (cs := #[.int .i64 0, .slice none 0 0, .int .i64 0]) (t := 56) ?hr ?_; (case hd => rfl); (case hg => rfl); (case hr => first | (go_simp; done) | (go_simp; rfl)); intro gb141 hg w3 hbox hb; have n0_ := As_.mk (bp_ (by repeat (first | (with_reducible first | exact HB.out | apply ba_ | apply pN_ | apply bd_) | exact HB.out)) hb); have n1_ := As_.mk (hbox); have n2_ := As_.mk ((by rw [hg]; exact (bz_ (by repeat (first | (with_reducible first | exact HB.out | apply ba_ | apply pN_ | apply bd_) | exact HB.out))) : w.heap.size ≤ gb141)); have n3_ := As_.mk ((by rw [hg]; exact (bz_ (by repeat (first | (with_reducible first | exact HB.out | apply ba_ | apply pN_ | apply bd_) | exact HB.out))) : w.heap.size ≤ gb141)); clear HB; have HB := n0_; have BK141 := n1_; have GW141 := n2_; have GE141 := n3_; clear n0_ n1_ n2_ n3_; clear hb hbox hg))
 (try simp only [Act.put, List.setIfInBounds_toArray, List.set_cons_zero, List.set_cons_succ])
 go_cut [4] (fun v4 wc => ∃ (kq : Nat) (x4_1 : Int), v4 = .int .i64 x4_1 ∧ As_ (spec_l03Read.j1 kq a0 x4_1 = some (r1, r2, r3, r4)) ∧ As_ (kq ≤ k) ∧ As_ (wc.heap[gb141]? = some (.cells #[.int .i64 0, (.slice none 0 0), .int .i64 0] 56 (0, 0))) ∧ As_ (Below w.heap.size w wc))
 case first =>
  have H := HC2.out
  clear HC2
  have H' := As_.mk H
  clear H
  go_wp2
  go_loopg [4] k (fun kq v4 w' => ∃ (x4_1 : Int), v4 = .int .i64 x4_1 ∧ As_ (spec_l03Read.l0 kq a0 x4_1 = some (r1, r2, r3, r4)) ∧ As_ (kq ≤ k) ∧ As_ (w'.heap[gb141]? = some (.cells #[.int .i64 0, (.slice none 0 0), .int .i64 0] 56 (0, 0))) ∧ As_ (Below w.heap.size w w'))
  case atStart => exact ⟨(0), (by first | rfl | (simp; done) | (simp [*]; done)), H', ⟨Nat.le_refl _⟩, ⟨by (with_reducible repeat (first | refine kN_ ?_ _ | refine kd_ ?_ | refine ka_ ?_ _)); exact BK141.out⟩, ⟨by repeat (first | (with_reducible first | exact HB.out | apply ba_ | apply pN_ | apply bd_ | refine bs_ ?_ GE141.out) | exact HB.out)⟩⟩
  case round =>
   clear H'
   try clear c1
   try clear p2
   obtain ⟨x4_1, rfl, HA, HK1, BK141, HB⟩ := hrel
   cases gk with
   | zero => exact absurd HA.out (by simp [spec_l03Read.l0])
   | succ k1 =>
    have H := HA.out
    clear HA
    simp only [spec_l03Read.l0] at H
    by_cases c4 : x4_1 < (a0.size : Int)
    ·rw [if_pos c4] at H
     have c4b0 : decide (x4_1 < (a0.size : Int)) = true := decide_eq_true c4
     clear c4
     (first | rw [c4b0] | (simp only [i64_w, i32_w]; rw [c4b0]) | skip)
     by_cases c5 : 0 ≤ x4_1
     ·rw [if_pos c5] at H
      have c5b0 : decide (0 ≤ x4_1) = true := decide_eq_true c5
      clear c5
      by_cases c7 : (bt a0 x4_1) = 112
      ·rw [if_pos c7] at H
       have c7b0 : ((bt a0 x4_1) == 112) = true := beq_iff_eq.mpr c7
       have c7b1 : ((bt a0 x4_1) != 112) = false := bne_eq_false_iff_eq.mpr c7
       clear c7
       have H' := As_.mk H
       clear H
       have p6 : 0 ≤ (x4_1 : Int) := of_decide_eq_true (by first | (with_reducible assumption) | assumption)
       have q6 : x4_1 < (a0.size : Int) := of_decide_eq_true (by first | (with_reducible assumption) | assumption)
       have hx6 := bt_at a0 x4_1
       replace p6 := eq_true p6
       replace q6 := eq_true q6
       go_wp2
       go_meet
       case rel => exact ⟨_, (x4_1), (by first | rfl | (simp; done) | (simp [*]; done)), H', ⟨by have := HK1.out; first | omega | exact Nat.le_refl _⟩, ⟨by (with_reducible repeat (first | refine kN_ ?_ _ | refine kd_ ?_ | refine ka_ ?_ _)); exact BK141.out⟩, ⟨by repeat (first | (with_reducible first | exact HB.out | apply ba_ | apply pN_ | apply bd_ | refine bs_ ?_ GE141.out) | exact HB.out)⟩⟩
      ·rw [if_neg c7] at H
       have c7b0 : ((bt a0 x4_1) == 112) = false := beq_eq_false_iff_ne.mpr c7
       have c7b1 : ((bt a0 x4_1) != 112) = true := bne_iff_ne.mpr c7
       have H' := As_.mk H
       clear H
       have p6 : 0 ≤ (x4_1 : Int) := of_decide_eq_true (by first | (with_reducible assumption) | assumption)
       have q6 : x4_1 < (a0.size : Int) := of_decide_eq_true (by first | (with_reducible assumption) | assumption)
       have hx6 := bt_at a0 x4_1
       replace p6 := eq_true p6
       replace q6 := eq_true q6
       go_wp2
       go_roundg k1
       case measure => have := HK1.out; omega
       case rel => exact ⟨(wrap64 (x4_1 + 1)), (by first | rfl | (simp; done) | (simp [*]; done)), H', ⟨by have := HK1.out; omega⟩, ⟨by (with_reducible repeat (first | refine kN_ ?_ _ | refine kd_ ?_ | refine ka_ ?_ _)); exact BK141.out⟩, ⟨by repeat (first | (with_reducible first | exact HB.out | apply ba_ | apply pN_ | apply bd_ | refine bs_ ?_ GE141.out) | exact HB.out)⟩⟩
     ·rw [if_neg c5] at H
      exact absurd H (by simp)
    ·rw [if_neg c4] at H
     have c4b0 : decide (x4_1 < (a0.size : Int)) = false := decide_eq_false c4
     clear c4
     (first | rw [c4b0] | (simp only [i64_w, i32_w]; rw [c4b0]) | skip)
     have H' := As_.mk H
     clear H
     go_wp2
     go_meet
     case rel => exact ⟨_, (x4_1), (by first | rfl | (simp; done) | (simp [*]; done)), H', ⟨by have := HK1.out; first | omega | exact Nat.le_refl _⟩, ⟨by (with_reducible repeat (first | refine kN_ ?_ _ | refine kd_ ?_ | refine ka_ ?_ _)); exact BK141.out⟩, ⟨by repeat (first | (with_reducible first | exact HB.out | apply ba_ | apply pN_ | apply bd_ | refine bs_ ?_ GE141.out) | exact HB.out)⟩⟩
 case rest =>
  clear HC2
  try clear c1
  try clear p2
  try clear c4
  try clear c4b0
  try clear c5
  try clear c5b0
  try clear p6
  try clear q6
  try clear hx6
  try clear c7
  try clear c7b0
  try clear c7b1
  try clear p2
  try clear p6
  try clear q6
  obtain ⟨kq, x4_1, rfl, HA, HJ1, BK141, HB⟩ := hcut
  cases kq with
  | zero => exact absurd HA.out (by simp [spec_l03Read.j1])
  | succ kj1 =>
   have H := HA.out
   clear HA
   simp only [spec_l03Read.j1] at H
   by_cases c8 : x4_1 = (a0.size : Int)
   ·rw [if_pos c8] at H
    have c8b0 : (x4_1 == (a0.size : Int)) = true := beq_iff_eq.mpr c8
    have c8b1 : (x4_1 != (a0.size : Int)) = false := bne_eq_false_iff_eq.mpr c8
    clear c8
    simp only [Option.some.injEq, Prod.mk.injEq] at H
    obtain ⟨rfl, rfl, rfl, rfl⟩ := H
    have hcz9_0 : wc.cell? ⟨gb141, 0, none⟩ = some (.int .i64 0) := (kc_ BK141.out 0).trans rfl
    have hcz9_1 : wc.cell? ⟨gb141, 1, none⟩ = some (.slice none 0 0) := (kc_ BK141.out 1).trans rfl
    have hcz9_2 : wc.cell? ⟨gb141, 2, none⟩ = some (.int .i64 0) := (kc_ BK141.out 2).trans rfl
    have hfz9_0 := kf_ BK141.out 0
    have hfz9_1 := kf_ BK141.out 1
    have hfz9_2 := kf_ BK141.out 2
    go_wp2
    refine bodyPost_ret (results_ct rfl _ _ gb141 56 #[.int .i64 0, .slice none 0 0, .int .i64 0] (0, 0) _ rfl (by (with_reducible repeat (first | refine kN_ ?_ _ | refine kd_ ?_ | refine ka_ ?_ _)); refine blk_put (cs := #[.int .i64 0, .slice none 0 0, .int .i64 0]) ?_ 2 _ rfl; (with_reducible repeat (first | refine kN_ ?_ _ | refine kd_ ?_ | refine ka_ ?_ _)); refine blk_put (cs := #[.int .i64 0, .slice none 0 0, .int .i64 0]) ?_ 1 _ rfl; (with_reducible repeat (first | refine kN_ ?_ _ | refine kd_ ?_ | refine ka_ ?_ _)); refine blk_put (cs := #[.int .i64 0, .slice none 0 0, .int .i64 0]) ?_ 0 _ rfl; (with_reducible repeat (first | refine kN_ ?_ _ | refine kd_ ?_ | refine ka_ ?_ _)); exact BK141.out) Tryz.underlying56 rfl (by kernel_rfl)) rfl ?_
    exact ⟨_, by first | rfl | (simp [eN_, eS_] <;> rfl) | (simp [*, eN_, eS_] <;> rfl), by first | exact Kd.R_nil _ _ _ _ _ | exact Kd.N_nil _ _ _ _ _ | exact Kd.V_nil _ _ _ _ _ | exact Kd.Q_nil _ _ _ _ _ | exact Kd.S_nil _ _ _ _ _, by repeat (first | (with_reducible first | exact HB.out | apply ba_ | apply pN_ | apply bd_ | refine bs_ ?_ GE141.out) | exact HB.out)⟩
   ·rw [if_neg c8] at H
    have c8b0 : (x4_1 == (a0.size : Int)) = false := beq_eq_false_iff_ne.mpr c8
    have c8b1 : (x4_1 != (a0.size : Int)) = true := bne_iff_ne.mpr c8
    by_cases c10 : 0 ≤ x4_1
    ·rw [if_pos c10] at H
     have c10b0 := eq_true c10
     have c10b1 : decide (0 ≤ x4_1) = true := decide_eq_true c10
     clear c10
     by_cases c11 : x4_1 ≤ (a0.size : Int)
     ·rw [if_pos c11] at H
      have c11b0 := eq_true c11
      have c11b1 : decide (x4_1 ≤ (a0.size : Int)) = true := decide_eq_true c11
      clear c11
      replace H := Option.bind_eq_some_iff.mp H
      obtain ⟨⟨t142, t143, t146⟩, A120, H⟩ := H
      replace H : (if 0 ≤ (wrap64 (x4_1 + 1)) then (if (wrap64 (x4_1 + 1)) ≤ (a0.size : Int) then ((spec_l02Read.f kj1 (a0.extract ((wrap64 (x4_1 + 1)) : Int).toNat a0.size)).bind fun bt148 => (if t146 = true then (if bt148.2.2 = true then ((spec_l02Is.f kj1 t142 t143).bind fun t154 => (if t154 = true then (spec_l03Read.j2 kj1 (decide ((bt148.2.1.length : Int) > 1)) t142 t143 bt148.1 bt148.2.1) else (spec_l03Read.j2 kj1 true t142 t143 bt148.1 bt148.2.1))) else (spec_l03Read.j2 kj1 true t142 t143 bt148.1 bt148.2.1)) else (spec_l03Read.j2 kj1 true t142 t143 bt148.1 bt148.2.1))) else (none)) else (none)) = some (r1, r2, r3, r4) := H
      have A12 := As_.mk A120
      clear A120
      obtain ⟨ji13, hji13⟩ : ∃ j_ : Int, (wrap64 (x4_1 + 1)) = j_ := ⟨_, rfl⟩
      replace H : (if 0 ≤ (ji13) then (if (ji13) ≤ (a0.size : Int) then ((spec_l02Read.f kj1 (a0.extract ((ji13) : Int).toNat a0.size)).bind fun bt148 => (if t146 = true then (if bt148.2.2 = true then ((spec_l02Is.f kj1 t142 t143).bind fun t154 => (if t154 = true then (spec_l03Read.j2 kj1 (decide ((bt148.2.1.length : Int) > 1)) t142 t143 bt148.1 bt148.2.1) else (spec_l03Read.j2 kj1 true t142 t143 bt148.1 bt148.2.1))) else (spec_l03Read.j2 kj1 true t142 t143 bt148.1 bt148.2.1)) else (spec_l03Read.j2 kj1 true t142 t143 bt148.1 bt148.2.1))) else (none)) else (none)) = some (r1, r2, r3, r4) := by first | (rw [hji13] at H; exact H) | (simp only [hji13] at H ⊢; exact H)
      (try rw [hji13] at A12)
      have hji13w : (IntKind.i64.wrap (x4_1 + 1)) = ji13 := (i64_w _).trans hji13
      by_cases c14 : 0 ≤ (ji13)
      ·rw [if_pos c14] at H
       have c14b0 := eq_true c14
       have c14b1 : decide (0 ≤ (ji13)) = true := decide_eq_true c14
       clear c14
       by_cases c15 : (ji13) ≤ (a0.size : Int)
       ·rw [if_pos c15] at H
        have c15b0 := eq_true c15
        have c15b1 : decide ((ji13) ≤ (a0.size : Int)) = true := decide_eq_true c15
        clear c15
        replace H := Option.bind_eq_some_iff.mp H
        obtain ⟨⟨t148, t149, t152⟩, A160, H⟩ := H
        replace H : (if t146 = true then (if t152 = true then ((spec_l02Is.f kj1 t142 t143).bind fun t154 => (if t154 = true then (spec_l03Read.j2 kj1 (decide ((t149.length : Int) > 1)) t142 t143 t148 t149) else (spec_l03Read.j2 kj1 true t142 t143 t148 t149))) else (spec_l03Read.j2 kj1 true t142 t143 t148 t149)) else (spec_l03Read.j2 kj1 true t142 t143 t148 t149)) = some (r1, r2, r3, r4) := H
        have A16 := As_.mk A160
        clear A160
        have HC17 := As_.mk H
        clear H
        go_upto_region 8 with (first | ((with_reducible refine gate_callee (f := 233) rfl ?_); refine goesL_ (some 31) rfl rfl Tryz.func233 (by kernel_rfl) rfl #[.string (a0.extract 0 (x4_1 : Int).toNat)] rfl (by (try simp only [List.map_toArray, List.map_cons, List.map_nil]); first | done | rfl | (simp only [List.length_drop, List.length_take]; rfl)) ?_; (with_reducible refine (spec_l02Read.calls kj1 (a0.extract 0 (x4_1 : Int).toNat) t142 t143 t146 _ A12.out).mono ?_); rintro e w18 ⟨v144, rfl, ho0, hb⟩; refine ⟨_, rfl, ?_⟩; have n0_ := As_.mk (Kd.R_lower ho0 (bz_ (by repeat (first | (with_reducible first | exact HB.out | apply ba_ | apply pN_ | apply bd_ | refine bs_ ?_ GE141.out) | exact HB.out)))); have n1_ := As_.mk (kb_ (g := gb141) (o := .cells #[.int .i64 0, .slice none 0 0, .int .i64 0] 56 (0, 0)) (by (with_reducible repeat (first | refine kN_ ?_ _ | refine kd_ ?_ | refine ka_ ?_ _)); exact BK141.out) hb); have n2_ := As_.mk (bp_ (by repeat (first | (with_reducible first | exact HB.out | apply ba_ | apply pN_ | apply bd_ | refine bs_ ?_ GE141.out) | exact HB.out)) hb); clear BK141; clear HB; have HO145 := n0_; have BK141 := n1_; have HB := n2_; clear n0_ n1_ n2_; (try clear hb); (try clear hb2); (try clear hk); (try clear hi); (try clear ho0)) | ((with_reducible refine gate_dst (N := 5) rfl ?_); (try (refine gate_guard (by rfl) ?_; dsimp only)); refine box_event ?hg (N := 5) ?hd (cs := #[.int .i64 0, .slice none 0 0]) (t := 54) ?hr ?_; (case hd => rfl); (case hg => rfl); (case hr => first | (go_simp; done) | (go_simp; rfl)); intro gb147 hg w19 hbox hb; have n0_ := As_.mk (Kd.R_below (by (with_reducible repeat (first | apply Kd.R_alloc | apply Kd.R_drewN | apply Kd.R_drew)); exact HO145.out) hb); have n1_ := As_.mk (kb_ (g := gb141) (o := .cells #[.int .i64 0, .slice none 0 0, .int .i64 0] 56 (0, 0)) (by (with_reducible repeat (first | refine kN_ ?_ _ | refine kd_ ?_ | refine ka_ ?_ _)); exact BK141.out) hb); have n2_ := As_.mk (bp_ (by repeat (first | (with_reducible first | exact HB.out | apply ba_ | apply pN_ | apply bd_ | refine bs_ ?_ GE141.out) | exact HB.out)) hb); have n3_ := As_.mk (hbox); have n4_ := As_.mk ((by rw [hg]; exact (bz_ (by repeat (first | (with_reducible first | exact HB.out | apply ba_ | apply pN_ | apply bd_ | refine bs_ ?_ GE141.out) | exact HB.out))) : w.heap.size ≤ gb147)); have n5_ := As_.mk ((by rw [hg]; exact (bz_ (by repeat (first | (with_reducible first | exact HB.out | apply ba_ | apply pN_ | apply bd_ | refine bs_ ?_ GE141.out) | exact HB.out))) : w.heap.size ≤ gb147)); have n6_ := As_.mk ((by rw [hg]; exact Nat.ne_of_lt (blk_lt (g := gb141) (o := .cells #[.int .i64 0, .slice none 0 0, .int .i64 0] 56 (0, 0)) (by (with_reducible repeat (first | refine kN_ ?_ _ | refine kd_ ?_ | refine ka_ ?_ _)); exact BK141.out)) : gb141 ≠ gb147)); have n7_ := As_.mk ((by rw [hg]; exact Nat.ne_of_gt (blk_lt (g := gb141) (o := .cells #[.int .i64 0, .slice none 0 0, .int .i64 0] 56 (0, 0)) (by (with_reducible repeat (first | refine kN_ ?_ _ | refine kd_ ?_ | refine ka_ ?_ _)); exact BK141.out)) : gb147 ≠ gb141)); clear HO145; clear BK141; clear HB; have HO145 := n0_; have BK141 := n1_; have HB := n2_; have BK147 := n3_; have GW147 := n4_; have GE147 := n5_; have NB141_147 := n6_; have NB147_141 := n7_; clear n0_ n1_ n2_ n3_ n4_ n5_ n6_ n7_; clear hb hbox hg; have hnb20 := NB147_141.out; have hnc20 := NB141_147.out; have hcz21_0 : w19.cell? ⟨gb147, 0, none⟩ = some (.int .i64 0) := (kc_ BK147.out 0).trans rfl; have hcz21_1 : w19.cell? ⟨gb147, 1, none⟩ = some (.slice none 0 0) := (kc_ BK147.out 1).trans rfl; have hfz21_0 := kf_ BK147.out 0; have hfz21_1 := kf_ BK147.out 1; obtain ⟨Ao22, co22, eo22⟩ := Kd.R_slice HO145.out; subst eo22) | ((with_reducible refine gate_callee (f := 233) rfl ?_); refine goesL_ (some 39) rfl rfl Tryz.func233 (by kernel_rfl) rfl #[.string (a0.extract ((ji13) : Int).toNat a0.size)] rfl (by (try simp only [List.map_toArray, List.map_cons, List.map_nil]); first | done | (simp only [hji13]; rfl) | rfl | (simp only [List.length_drop, List.length_take]; rfl)) ?_; (with_reducible refine (spec_l02Read.calls kj1 (a0.extract ((ji13) : Int).toNat a0.size) t148 t149 t152 _ A16.out).mono ?_); rintro e w23 ⟨v150, rfl, ho0, hb⟩; refine ⟨_, rfl, ?_⟩; have n0_ := As_.mk (Kd.R_elder' (by (with_reducible repeat (first | apply Kd.R_alloc | apply Kd.R_drewN | apply Kd.R_drew)); exact (Kd.R_mono (Kd.R_far (p := ⟨gb147, 1, none⟩) (Kd.R_far (p := ⟨gb147, 0, none⟩) (Kd.R_types HO145.out BK147.out (by decide)) (fun _ hk => hk.2) (.int .i64 t142)) (fun _ hk => hk.2) (.slice Ao22 t143.length co22)) (fun _ h_ => h_.1))) (Kd.R_base ho0) hb); have n1_ := As_.mk (Kd.R_lower (Kd.R_new' ho0 (Kd.R_lt (by (with_reducible repeat (first | apply Kd.R_alloc | apply Kd.R_drewN | apply Kd.R_drew)); exact (Kd.R_mono (Kd.R_far (p := ⟨gb147, 1, none⟩) (Kd.R_far (p := ⟨gb147, 0, none⟩) (Kd.R_types HO145.out BK147.out (by decide)) (fun _ hk => hk.2) (.int .i64 t142)) (fun _ hk => hk.2) (.slice Ao22 t143.length co22)) (fun _ h_ => h_.1))))) (bz_ (by repeat (first | (with_reducible first | exact HB.out | apply ba_ | apply pN_ | apply bd_ | refine bs_ ?_ GE141.out | refine bs_ ?_ GE147.out) | exact HB.out)))); have n2_ := As_.mk (kb_ (g := gb141) (o := .cells #[.int .i64 0, .slice none 0 0, .int .i64 0] 56 (0, 0)) (by (with_reducible repeat (first | refine kN_ ?_ _ | refine kd_ ?_ | refine ka_ ?_ _)); refine blk_far ?_ NB141_147.out _; (with_reducible repeat (first | refine kN_ ?_ _ | refine kd_ ?_ | refine ka_ ?_ _)); refine blk_far ?_ NB141_147.out _; (with_reducible repeat (first | refine kN_ ?_ _ | refine kd_ ?_ | refine ka_ ?_ _)); exact BK141.out) hb); have n3_ := As_.mk (kb_ (g := gb147) (o := .cells #[.int .i64 t142, .slice Ao22 t143.length co22] 54 (0, 0)) (by (with_reducible repeat (first | refine kN_ ?_ _ | refine kd_ ?_ | refine ka_ ?_ _)); refine blk_put (cs := #[.int .i64 t142, .slice none 0 0]) ?_ 1 _ rfl; (with_reducible repeat (first | refine kN_ ?_ _ | refine kd_ ?_ | refine ka_ ?_ _)); refine blk_put (cs := #[.int .i64 0, .slice none 0 0]) ?_ 0 _ rfl; (with_reducible repeat (first | refine kN_ ?_ _ | refine kd_ ?_ | refine ka_ ?_ _)); exact BK147.out) hb); have n4_ := As_.mk (bp_ (by repeat (first | (with_reducible first | exact HB.out | apply ba_ | apply pN_ | apply bd_ | refine bs_ ?_ GE141.out | refine bs_ ?_ GE147.out) | exact HB.out)) hb); clear HO145; clear BK141; clear BK147; clear HB; have HO145 := n0_; have HO151 := n1_; have BK141 := n2_; have BK147 := n3_; have HB := n4_; clear n0_ n1_ n2_ n3_ n4_; (try clear hb); (try clear hb2); (try clear hk); (try clear hi); (try clear ho0)) | ((with_reducible refine gate_dst (N := 7) rfl ?_); (try (refine gate_guard (by rfl) ?_; dsimp only)); refine box_event ?hg (N := 7) ?hd (cs := #[.int .i64 0, .slice none 0 0]) (t := 54) ?hr ?_; (case hd => rfl); (case hg => rfl); (case hr => first | (go_simp; done) | (go_simp; rfl)); intro gb153 hg w24 hbox hb; have n0_ := As_.mk (Kd.R_below (by (with_reducible repeat (first | apply Kd.R_alloc | apply Kd.R_drewN | apply Kd.R_drew)); exact HO145.out) hb); have n1_ := As_.mk (Kd.R_below (by (with_reducible repeat (first | apply Kd.R_alloc | apply Kd.R_drewN | apply Kd.R_drew)); exact HO151.out) hb); have n2_ := As_.mk (kb_ (g := gb141) (o := .cells #[.int .i64 0, .slice none 0 0, .int .i64 0] 56 (0, 0)) (by (with_reducible repeat (first | refine kN_ ?_ _ | refine kd_ ?_ | refine ka_ ?_ _)); exact BK141.out) hb); have n3_ := As_.mk (kb_ (g := gb147) (o := .cells #[.int .i64 t142, .slice Ao22 t143.length co22] 54 (0, 0)) (by (with_reducible repeat (first | refine kN_ ?_ _ | refine kd_ ?_ | refine ka_ ?_ _)); exact BK147.out) hb); have n4_ := As_.mk (bp_ (by repeat (first | (with_reducible first | exact HB.out | apply ba_ | apply pN_ | apply bd_ | refine bs_ ?_ GE141.out | refine bs_ ?_ GE147.out) | exact HB.out)) hb); have n5_ := As_.mk (hbox); have n6_ := As_.mk ((by rw [hg]; exact (bz_ (by repeat (first | (with_reducible first | exact HB.out | apply ba_ | apply pN_ | apply bd_ | refine bs_ ?_ GE141.out | refine bs_ ?_ GE147.out) | exact HB.out))) : w.heap.size ≤ gb153)); have n7_ := As_.mk ((by rw [hg]; exact (bz_ (by repeat (first | (with_reducible first | exact HB.out | apply ba_ | apply pN_ | apply bd_ | refine bs_ ?_ GE141.out | refine bs_ ?_ GE147.out) | exact HB.out))) : w.heap.size ≤ gb153)); have n8_ := As_.mk ((by rw [hg]; exact Nat.ne_of_lt (blk_lt (g := gb141) (o := .cells #[.int .i64 0, .slice none 0 0, .int .i64 0] 56 (0, 0)) (by (with_reducible repeat (first | refine kN_ ?_ _ | refine kd_ ?_ | refine ka_ ?_ _)); exact BK141.out)) : gb141 ≠ gb153)); have n9_ := As_.mk ((by rw [hg]; exact Nat.ne_of_gt (blk_lt (g := gb141) (o := .cells #[.int .i64 0, .slice none 0 0, .int .i64 0] 56 (0, 0)) (by (with_reducible repeat (first | refine kN_ ?_ _ | refine kd_ ?_ | refine ka_ ?_ _)); exact BK141.out)) : gb153 ≠ gb141)); have n10_ := As_.mk ((by rw [hg]; exact Nat.ne_of_lt (blk_lt (g := gb147) (o := .cells #[.int .i64 t142, .slice Ao22 t143.length co22] 54 (0, 0)) (by (with_reducible repeat (first | refine kN_ ?_ _ | refine kd_ ?_ | refine ka_ ?_ _)); exact BK147.out)) : gb147 ≠ gb153)); have n11_ := As_.mk ((by rw [hg]; exact Nat.ne_of_gt (blk_lt (g := gb147) (o := .cells #[.int .i64 t142, .slice Ao22 t143.length co22] 54 (0, 0)) (by (with_reducible repeat (first | refine kN_ ?_ _ | refine kd_ ?_ | refine ka_ ?_ _)); exact BK147.out)) : gb153 ≠ gb147)); clear HO145; clear HO151; clear BK141; clear BK147; clear HB; have HO145 := n0_; have HO151 := n1_; have BK141 := n2_; have BK147 := n3_; have HB := n4_; have BK153 := n5_; have GW153 := n6_; have GE153 := n7_; have NB141_153 := n8_; have NB153_141 := n9_; have NB147_153 := n10_; have NB153_147 := n11_; clear n0_ n1_ n2_ n3_ n4_ n5_ n6_ n7_ n8_ n9_ n10_ n11_; clear hb hbox hg; have hnb25 := NB153_141.out; have hnc25 := NB141_153.out; have hnb26 := NB153_147.out; have hnc26 := NB147_153.out; have hcz27_0 : w24.cell? ⟨gb153, 0, none⟩ = some (.int .i64 0) := (kc_ BK153.out 0).trans rfl; have hcz27_1 : w24.cell? ⟨gb153, 1, none⟩ = some (.slice none 0 0) := (kc_ BK153.out 1).trans rfl; have hfz27_0 := kf_ BK153.out 0; have hfz27_1 := kf_ BK153.out 1; obtain ⟨Ao28, co28, eo28⟩ := Kd.R_slice HO151.out; subst eo28))
        (try simp only [Act.put, List.setIfInBounds_toArray, List.set_cons_zero, List.set_cons_succ])
        go_cut [58] (fun v58 wc => ∃ (kq : Nat) (x58_16 : Bool), v58 = .bool x58_16 ∧ As_ (spec_l03Read.j2 kq x58_16 t142 t143 t148 t149 = some (r1, r2, r3, r4)) ∧ As_ (kq ≤ kj1) ∧ As_ (Kd.R (Kd.int .i64) 2 wc w.heap.size (fun k_ => some k_ ≠ ((.slice Ao28 t149.length co28) : Value).ownBlock) (.slice Ao22 t143.length co22) t143) ∧ As_ (Kd.R (Kd.int .i64) 2 wc w.heap.size (fun k_ => some k_ ≠ ((.slice Ao22 t143.length co22) : Value).ownBlock) (.slice Ao28 t149.length co28) t149) ∧ As_ (wc.heap[gb141]? = some (.cells #[.int .i64 0, (.slice none 0 0), .int .i64 0] 56 (0, 0))) ∧ As_ (wc.heap[gb147]? = some (.cells #[.int .i64 t142, (.slice Ao22 t143.length co22)] 54 (0, 0))) ∧ As_ (wc.heap[gb153]? = some (.cells #[.int .i64 t148, (.slice Ao28 t149.length co28)] 54 (0, 0))) ∧ As_ (Below w.heap.size w wc))
        case first =>
         have H := HC17.out
         clear HC17
         by_cases c29 : t146 = true
         ·subst c29
          have H1 : (if t152 = true then ((spec_l02Is.f kj1 t142 t143).bind fun t154 => (if t154 = true then (spec_l03Read.j2 kj1 (decide ((t149.length : Int) > 1)) t142 t143 t148 t149) else (spec_l03Read.j2 kj1 true t142 t143 t148 t149))) else (spec_l03Read.j2 kj1 true t142 t143 t148 t149)) = some (r1, r2, r3, r4) := by rw [if_pos rfl] at H; exact H
          clear H
          have H := H1
          clear H1
          by_cases c30 : t152 = true
          ·subst c30
           have H1 : ((spec_l02Is.f kj1 t142 t143).bind fun t154 => (if t154 = true then (spec_l03Read.j2 kj1 (decide ((t149.length : Int) > 1)) t142 t143 t148 t149) else (spec_l03Read.j2 kj1 true t142 t143 t148 t149))) = some (r1, r2, r3, r4) := by rw [if_pos rfl] at H; exact H
           clear H
           have H := H1
           clear H1
           replace H := Option.bind_eq_some_iff.mp H
           obtain ⟨t154, A310, H⟩ := H
           replace H : (if t154 = true then (spec_l03Read.j2 kj1 (decide ((t149.length : Int) > 1)) t142 t143 t148 t149) else (spec_l03Read.j2 kj1 true t142 t143 t148 t149)) = some (r1, r2, r3, r4) := H
           have A31 := As_.mk A310
           clear A310
           by_cases c32 : t154 = true
           ·subst c32
            have H1 : (spec_l03Read.j2 kj1 (decide ((t149.length : Int) > 1)) t142 t143 t148 t149) = some (r1, r2, r3, r4) := by rw [if_pos rfl] at H; exact H
            clear H
            have H := H1
            clear H1
            have H' := As_.mk H
            clear H
            have hnb33 := NB147_141.out
            have hnc33 := NB141_147.out
            have hnb34 := NB147_153.out
            have hnc34 := NB153_147.out
            have hcz35_0 : w24.cell? ⟨gb147, 0, none⟩ = some (.int .i64 t142) := (kc_ BK147.out 0).trans rfl
            have hcz35_1 : w24.cell? ⟨gb147, 1, none⟩ = some (.slice Ao22 t143.length co22) := (kc_ BK147.out 1).trans rfl
            have hfz35_0 := kf_ BK147.out 0
            have hfz35_1 := kf_ BK147.out 1
            go_wp2_with (first | (go_at_call 168; (with_reducible refine (spec_l02Is.calls kj1 t142 _ _ t143 true _ ?side1 ?side2 A31.out).mono ?_); (case side1 => refine (Kd.R_reads' (e := 2) (base := w.heap.size) (ok := fun k_ => (True ∧ some k_ ≠ (.slice Ao28 t149.length co28 : Value).ownBlock)) (n := t143.length) (c := co22) ?_).2.2; exact (by (with_reducible repeat (first | apply Kd.R_alloc | apply Kd.R_drewN | apply Kd.R_drew)); exact (Kd.R_mono (Kd.R_far (p := ⟨gb153, 1, none⟩) (Kd.R_far (p := ⟨gb153, 0, none⟩) (Kd.R_types HO145.out BK153.out (by decide)) (fun _ hk => hk.2) (.int .i64 t148)) (fun _ hk => hk.2) (.slice Ao28 t149.length co28)) (fun _ h_ => h_.1)))); (case side2 => exact (Kd.R_reads' HO145.out).2.1); rintro e w36 ⟨rfl, hb⟩; have n0_ := As_.mk (Kd.R_below (by (with_reducible repeat (first | apply Kd.R_alloc | apply Kd.R_drewN | apply Kd.R_drew)); exact (Kd.R_mono (Kd.R_far (p := ⟨gb153, 1, none⟩) (Kd.R_far (p := ⟨gb153, 0, none⟩) (Kd.R_types HO145.out BK153.out (by decide)) (fun _ hk => hk.2) (.int .i64 t148)) (fun _ hk => hk.2) (.slice Ao28 t149.length co28)) (fun _ h_ => h_.1))) hb); have n1_ := As_.mk (Kd.R_below (by (with_reducible repeat (first | apply Kd.R_alloc | apply Kd.R_drewN | apply Kd.R_drew)); exact (Kd.R_mono (Kd.R_far (p := ⟨gb153, 1, none⟩) (Kd.R_far (p := ⟨gb153, 0, none⟩) (Kd.R_types HO151.out BK153.out (by decide)) (fun _ hk => hk.2) (.int .i64 t148)) (fun _ hk => hk.2) (.slice Ao28 t149.length co28)) (fun _ h_ => h_.1))) hb); have n2_ := As_.mk (kb_ (g := gb141) (o := .cells #[.int .i64 0, .slice none 0 0, .int .i64 0] 56 (0, 0)) (by (with_reducible repeat (first | refine kN_ ?_ _ | refine kd_ ?_ | refine ka_ ?_ _)); refine blk_far ?_ NB141_153.out _; (with_reducible repeat (first | refine kN_ ?_ _ | refine kd_ ?_ | refine ka_ ?_ _)); refine blk_far ?_ NB141_153.out _; (with_reducible repeat (first | refine kN_ ?_ _ | refine kd_ ?_ | refine ka_ ?_ _)); exact BK141.out) hb); have n3_ := As_.mk (kb_ (g := gb147) (o := .cells #[.int .i64 t142, .slice Ao22 t143.length co22] 54 (0, 0)) (by (with_reducible repeat (first | refine kN_ ?_ _ | refine kd_ ?_ | refine ka_ ?_ _)); refine blk_far ?_ NB147_153.out _; (with_reducible repeat (first | refine kN_ ?_ _ | refine kd_ ?_ | refine ka_ ?_ _)); refine blk_far ?_ NB147_153.out _; (with_reducible repeat (first | refine kN_ ?_ _ | refine kd_ ?_ | refine ka_ ?_ _)); exact BK147.out) hb); have n4_ := As_.mk (kb_ (g := gb153) (o := .cells #[.int .i64 t148, .slice Ao28 t149.length co28] 54 (0, 0)) (by (with_reducible repeat (first | refine kN_ ?_ _ | refine kd_ ?_ | refine ka_ ?_ _)); refine blk_put (cs := #[.int .i64 t148, .slice none 0 0]) ?_ 1 _ rfl; (with_reducible repeat (first | refine kN_ ?_ _ | refine kd_ ?_ | refine ka_ ?_ _)); refine blk_put (cs := #[.int .i64 0, .slice none 0 0]) ?_ 0 _ rfl; (with_reducible repeat (first | refine kN_ ?_ _ | refine kd_ ?_ | refine ka_ ?_ _)); exact BK153.out) hb); have n5_ := As_.mk (bp_ (by repeat (first | (with_reducible first | exact HB.out | apply ba_ | apply pN_ | apply bd_ | refine bs_ ?_ GE141.out | refine bs_ ?_ GE147.out | refine bs_ ?_ GE153.out) | exact HB.out)) hb); clear HO145; clear HO151; clear BK141; clear BK147; clear BK153; clear HB; have HO145 := n0_; have HO151 := n1_; have BK141 := n2_; have BK147 := n3_; have BK153 := n4_; have HB := n5_; clear n0_ n1_ n2_ n3_ n4_ n5_; (try clear hb); (try clear hb2); (try clear hk); (try clear hi); have hnb37 := NB153_141.out; have hnc37 := NB141_153.out; have hcz38_0 : w36.cell? ⟨gb153, 0, none⟩ = some (.int .i64 t148) := (kc_ BK153.out 0).trans rfl; have hcz38_1 : w36.cell? ⟨gb153, 1, none⟩ = some (.slice Ao28 t149.length co28) := (kc_ BK153.out 1).trans rfl; have hfz38_0 := kf_ BK153.out 0; have hfz38_1 := kf_ BK153.out 1))
            go_meet
            case rel => exact ⟨_, (decide ((t149.length : Int) > 1)), (by first | rfl | (simp; done) | (simp [*]; done)), H', ⟨by have := HJ1.out; first | omega | exact Nat.le_refl _⟩, ⟨by (with_reducible repeat (first | apply Kd.R_alloc | apply Kd.R_drewN | apply Kd.R_drew)); exact Kd.R_mono HO145.out (fun _ hk => hk.2)⟩, ⟨by (with_reducible repeat (first | apply Kd.R_alloc | apply Kd.R_drewN | apply Kd.R_drew)); exact Kd.R_mono HO151.out (fun _ hk => hk.2)⟩, ⟨by (with_reducible repeat (first | refine kN_ ?_ _ | refine kd_ ?_ | refine ka_ ?_ _)); exact BK141.out⟩, ⟨by (with_reducible repeat (first | refine kN_ ?_ _ | refine kd_ ?_ | refine ka_ ?_ _)); exact BK147.out⟩, ⟨by (with_reducible repeat (first | refine kN_ ?_ _ | refine kd_ ?_ | refine ka_ ?_ _)); exact BK153.out⟩, ⟨by repeat (first | (with_reducible first | exact HB.out | apply ba_ | apply pN_ | apply bd_ | refine bs_ ?_ GE141.out | refine bs_ ?_ GE147.out | refine bs_ ?_ GE153.out) | exact HB.out)⟩⟩
           ·replace c32 := Bool.eq_false_iff.mpr c32
            subst c32
            have H1 : (spec_l03Read.j2 kj1 true t142 t143 t148 t149) = some (r1, r2, r3, r4) := by rw [if_neg (show ¬ (false = true) by decide)] at H; exact H
            clear H
            have H := H1
            clear H1
            have H' := As_.mk H
            clear H
            have hnb39 := NB147_141.out
            have hnc39 := NB141_147.out
            have hnb40 := NB147_153.out
            have hnc40 := NB153_147.out
            have hcz41_0 : w24.cell? ⟨gb147, 0, none⟩ = some (.int .i64 t142) := (kc_ BK147.out 0).trans rfl
            have hcz41_1 : w24.cell? ⟨gb147, 1, none⟩ = some (.slice Ao22 t143.length co22) := (kc_ BK147.out 1).trans rfl
            have hfz41_0 := kf_ BK147.out 0
            have hfz41_1 := kf_ BK147.out 1
            go_wp2_with (first | (go_at_call 168; (with_reducible refine (spec_l02Is.calls kj1 t142 _ _ t143 false _ ?side1 ?side2 A31.out).mono ?_); (case side1 => refine (Kd.R_reads' (e := 2) (base := w.heap.size) (ok := fun k_ => (True ∧ some k_ ≠ (.slice Ao28 t149.length co28 : Value).ownBlock)) (n := t143.length) (c := co22) ?_).2.2; exact (by (with_reducible repeat (first | apply Kd.R_alloc | apply Kd.R_drewN | apply Kd.R_drew)); exact (Kd.R_mono (Kd.R_far (p := ⟨gb153, 1, none⟩) (Kd.R_far (p := ⟨gb153, 0, none⟩) (Kd.R_types HO145.out BK153.out (by decide)) (fun _ hk => hk.2) (.int .i64 t148)) (fun _ hk => hk.2) (.slice Ao28 t149.length co28)) (fun _ h_ => h_.1)))); (case side2 => exact (Kd.R_reads' HO145.out).2.1); rintro e w42 ⟨rfl, hb⟩; have n0_ := As_.mk (Kd.R_below (by (with_reducible repeat (first | apply Kd.R_alloc | apply Kd.R_drewN | apply Kd.R_drew)); exact (Kd.R_mono (Kd.R_far (p := ⟨gb153, 1, none⟩) (Kd.R_far (p := ⟨gb153, 0, none⟩) (Kd.R_types HO145.out BK153.out (by decide)) (fun _ hk => hk.2) (.int .i64 t148)) (fun _ hk => hk.2) (.slice Ao28 t149.length co28)) (fun _ h_ => h_.1))) hb); have n1_ := As_.mk (Kd.R_below (by (with_reducible repeat (first | apply Kd.R_alloc | apply Kd.R_drewN | apply Kd.R_drew)); exact (Kd.R_mono (Kd.R_far (p := ⟨gb153, 1, none⟩) (Kd.R_far (p := ⟨gb153, 0, none⟩) (Kd.R_types HO151.out BK153.out (by decide)) (fun _ hk => hk.2) (.int .i64 t148)) (fun _ hk => hk.2) (.slice Ao28 t149.length co28)) (fun _ h_ => h_.1))) hb); have n2_ := As_.mk (kb_ (g := gb141) (o := .cells #[.int .i64 0, .slice none 0 0, .int .i64 0] 56 (0, 0)) (by (with_reducible repeat (first | refine kN_ ?_ _ | refine kd_ ?_ | refine ka_ ?_ _)); refine blk_far ?_ NB141_153.out _; (with_reducible repeat (first | refine kN_ ?_ _ | refine kd_ ?_ | refine ka_ ?_ _)); refine blk_far ?_ NB141_153.out _; (with_reducible repeat (first | refine kN_ ?_ _ | refine kd_ ?_ | refine ka_ ?_ _)); exact BK141.out) hb); have n3_ := As_.mk (kb_ (g := gb147) (o := .cells #[.int .i64 t142, .slice Ao22 t143.length co22] 54 (0, 0)) (by (with_reducible repeat (first | refine kN_ ?_ _ | refine kd_ ?_ | refine ka_ ?_ _)); refine blk_far ?_ NB147_153.out _; (with_reducible repeat (first | refine kN_ ?_ _ | refine kd_ ?_ | refine ka_ ?_ _)); refine blk_far ?_ NB147_153.out _; (with_reducible repeat (first | refine kN_ ?_ _ | refine kd_ ?_ | refine ka_ ?_ _)); exact BK147.out) hb); have n4_ := As_.mk (kb_ (g := gb153) (o := .cells #[.int .i64 t148, .slice Ao28 t149.length co28] 54 (0, 0)) (by (with_reducible repeat (first | refine kN_ ?_ _ | refine kd_ ?_ | refine ka_ ?_ _)); refine blk_put (cs := #[.int .i64 t148, .slice none 0 0]) ?_ 1 _ rfl; (with_reducible repeat (first | refine kN_ ?_ _ | refine kd_ ?_ | refine ka_ ?_ _)); refine blk_put (cs := #[.int .i64 0, .slice none 0 0]) ?_ 0 _ rfl; (with_reducible repeat (first | refine kN_ ?_ _ | refine kd_ ?_ | refine ka_ ?_ _)); exact BK153.out) hb); have n5_ := As_.mk (bp_ (by repeat (first | (with_reducible first | exact HB.out | apply ba_ | apply pN_ | apply bd_ | refine bs_ ?_ GE141.out | refine bs_ ?_ GE147.out | refine bs_ ?_ GE153.out) | exact HB.out)) hb); clear HO145; clear HO151; clear BK141; clear BK147; clear BK153; clear HB; have HO145 := n0_; have HO151 := n1_; have BK141 := n2_; have BK147 := n3_; have BK153 := n4_; have HB := n5_; clear n0_ n1_ n2_ n3_ n4_ n5_; (try clear hb); (try clear hb2); (try clear hk); (try clear hi)))
            go_meet
            case rel => exact ⟨_, (true), (by first | rfl | (simp; done) | (simp [*]; done)), H', ⟨by have := HJ1.out; first | omega | exact Nat.le_refl _⟩, ⟨by (with_reducible repeat (first | apply Kd.R_alloc | apply Kd.R_drewN | apply Kd.R_drew)); exact Kd.R_mono HO145.out (fun _ hk => hk.2)⟩, ⟨by (with_reducible repeat (first | apply Kd.R_alloc | apply Kd.R_drewN | apply Kd.R_drew)); exact Kd.R_mono HO151.out (fun _ hk => hk.2)⟩, ⟨by (with_reducible repeat (first | refine kN_ ?_ _ | refine kd_ ?_ | refine ka_ ?_ _)); exact BK141.out⟩, ⟨by (with_reducible repeat (first | refine kN_ ?_ _ | refine kd_ ?_ | refine ka_ ?_ _)); exact BK147.out⟩, ⟨by (with_reducible repeat (first | refine kN_ ?_ _ | refine kd_ ?_ | refine ka_ ?_ _)); exact BK153.out⟩, ⟨by repeat (first | (with_reducible first | exact HB.out | apply ba_ | apply pN_ | apply bd_ | refine bs_ ?_ GE141.out | refine bs_ ?_ GE147.out | refine bs_ ?_ GE153.out) | exact HB.out)⟩⟩
          ·replace c30 := Bool.eq_false_iff.mpr c30
           subst c30
           have H1 : (spec_l03Read.j2 kj1 true t142 t143 t148 t149) = some (r1, r2, r3, r4) := by rw [if_neg (show ¬ (false = true) by decide)] at H; exact H
           clear H
           have H := H1
           clear H1
           have H' := As_.mk H
           clear H
           go_wp2
           go_meet
           case rel => exact ⟨_, (true), (by first | rfl | (simp; done) | (simp [*]; done)), H', ⟨by have := HJ1.out; first | omega | exact Nat.le_refl _⟩, ⟨by (with_reducible repeat (first | apply Kd.R_alloc | apply Kd.R_drewN | apply Kd.R_drew)); exact Kd.R_mono (Kd.R_far (p := ⟨gb153, 1, none⟩) (Kd.R_far (p := ⟨gb153, 0, none⟩) (Kd.R_types HO145.out BK153.out (by decide)) (fun _ hk => hk.2) (.int .i64 t148)) (fun _ hk => hk.2) (.slice Ao28 t149.length co28)) (fun _ hk => hk.1.2)⟩, ⟨by (with_reducible repeat (first | apply Kd.R_alloc | apply Kd.R_drewN | apply Kd.R_drew)); exact Kd.R_mono (Kd.R_far (p := ⟨gb153, 1, none⟩) (Kd.R_far (p := ⟨gb153, 0, none⟩) (Kd.R_types HO151.out BK153.out (by decide)) (fun _ hk => hk.2) (.int .i64 t148)) (fun _ hk => hk.2) (.slice Ao28 t149.length co28)) (fun _ hk => hk.1.2)⟩, ⟨by (with_reducible repeat (first | refine kN_ ?_ _ | refine kd_ ?_ | refine ka_ ?_ _)); refine blk_far ?_ NB141_153.out _; (with_reducible repeat (first | refine kN_ ?_ _ | refine kd_ ?_ | refine ka_ ?_ _)); refine blk_far ?_ NB141_153.out _; (with_reducible repeat (first | refine kN_ ?_ _ | refine kd_ ?_ | refine ka_ ?_ _)); exact BK141.out⟩, ⟨by (with_reducible repeat (first | refine kN_ ?_ _ | refine kd_ ?_ | refine ka_ ?_ _)); refine blk_far ?_ NB147_153.out _; (with_reducible repeat (first | refine kN_ ?_ _ | refine kd_ ?_ | refine ka_ ?_ _)); refine blk_far ?_ NB147_153.out _; (with_reducible repeat (first | refine kN_ ?_ _ | refine kd_ ?_ | refine ka_ ?_ _)); exact BK147.out⟩, ⟨by (with_reducible repeat (first | refine kN_ ?_ _ | refine kd_ ?_ | refine ka_ ?_ _)); refine blk_put (cs := #[.int .i64 t148, .slice none 0 0]) ?_ 1 _ rfl; (with_reducible repeat (first | refine kN_ ?_ _ | refine kd_ ?_ | refine ka_ ?_ _)); refine blk_put (cs := #[.int .i64 0, .slice none 0 0]) ?_ 0 _ rfl; (with_reducible repeat (first | refine kN_ ?_ _ | refine kd_ ?_ | refine ka_ ?_ _)); exact BK153.out⟩, ⟨by repeat (first | (with_reducible first | exact HB.out | apply ba_ | apply pN_ | apply bd_ | refine bs_ ?_ GE141.out | refine bs_ ?_ GE147.out | refine bs_ ?_ GE153.out) | exact HB.out)⟩⟩
         ·replace c29 := Bool.eq_false_iff.mpr c29
          subst c29
          have H1 : (spec_l03Read.j2 kj1 true t142 t143 t148 t149) = some (r1, r2, r3, r4) := by rw [if_neg (show ¬ (false = true) by decide)] at H; exact H
          clear H
          have H := H1
          clear H1
          have H' := As_.mk H
          clear H
          go_wp2
          go_meet
          case rel => exact ⟨_, (true), (by first | rfl | (simp; done) | (simp [*]; done)), H', ⟨by have := HJ1.out; first | omega | exact Nat.le_refl _⟩, ⟨by (with_reducible repeat (first | apply Kd.R_alloc | apply Kd.R_drewN | apply Kd.R_drew)); exact Kd.R_mono (Kd.R_far (p := ⟨gb153, 1, none⟩) (Kd.R_far (p := ⟨gb153, 0, none⟩) (Kd.R_types HO145.out BK153.out (by decide)) (fun _ hk => hk.2) (.int .i64 t148)) (fun _ hk => hk.2) (.slice Ao28 t149.length co28)) (fun _ hk => hk.1.2)⟩, ⟨by (with_reducible repeat (first | apply Kd.R_alloc | apply Kd.R_drewN | apply Kd.R_drew)); exact Kd.R_mono (Kd.R_far (p := ⟨gb153, 1, none⟩) (Kd.R_far (p := ⟨gb153, 0, none⟩) (Kd.R_types HO151.out BK153.out (by decide)) (fun _ hk => hk.2) (.int .i64 t148)) (fun _ hk => hk.2) (.slice Ao28 t149.length co28)) (fun _ hk => hk.1.2)⟩, ⟨by (with_reducible repeat (first | refine kN_ ?_ _ | refine kd_ ?_ | refine ka_ ?_ _)); refine blk_far ?_ NB141_153.out _; (with_reducible repeat (first | refine kN_ ?_ _ | refine kd_ ?_ | refine ka_ ?_ _)); refine blk_far ?_ NB141_153.out _; (with_reducible repeat (first | refine kN_ ?_ _ | refine kd_ ?_ | refine ka_ ?_ _)); exact BK141.out⟩, ⟨by (with_reducible repeat (first | refine kN_ ?_ _ | refine kd_ ?_ | refine ka_ ?_ _)); refine blk_far ?_ NB147_153.out _; (with_reducible repeat (first | refine kN_ ?_ _ | refine kd_ ?_ | refine ka_ ?_ _)); refine blk_far ?_ NB147_153.out _; (with_reducible repeat (first | refine kN_ ?_ _ | refine kd_ ?_ | refine ka_ ?_ _)); exact BK147.out⟩, ⟨by (with_reducible repeat (first | refine kN_ ?_ _ | refine kd_ ?_ | refine ka_ ?_ _)); refine blk_put (cs := #[.int .i64 t148, .slice none 0 0]) ?_ 1 _ rfl; (with_reducible repeat (first | refine kN_ ?_ _ | refine kd_ ?_ | refine ka_ ?_ _)); refine blk_put (cs := #[.int .i64 0, .slice none 0 0]) ?_ 0 _ rfl; (with_reducible repeat (first | refine kN_ ?_ _ | refine kd_ ?_ | refine ka_ ?_ _)); exact BK153.out⟩, ⟨by repeat (first | (with_reducible first | exact HB.out | apply ba_ | apply pN_ | apply bd_ | refine bs_ ?_ GE141.out | refine bs_ ?_ GE147.out | refine bs_ ?_ GE153.out) | exact HB.out)⟩⟩
        case rest =>
         clear HC17
         try clear c1
         try clear c2
         try clear p2
         try clear c3
         try clear c4
         try clear c4b0
         try clear c5
         try clear c5b0
         try clear p6
         try clear q6
         try clear hx6
         try clear c7
         try clear c7b0
         try clear c7b1
         try clear c8
         try clear c8b0
         try clear c8b1
         try clear c10
         try clear c10b0
         try clear c10b1
         try clear c11
         try clear c11b0
         try clear c11b1
         try clear c14
         try clear c14b0
         try clear c14b1
         try clear c15
         try clear c15b0
         try clear c15b1
         try clear c18
         try clear c20
         try clear c23
         try clear c25
         try clear c26
         try clear c29
         try clear c30
         try clear c32
         try clear c33
         try clear c34
         try clear c37
         try clear c39
         try clear c40
         try clear hcz21_0
         try clear hcz21_1
         try clear hcz27_0
         try clear hcz27_1
         try clear hcz35_0
         try clear hcz35_1
         try clear hcz38_0
         try clear hcz38_1
         try clear hcz41_0
         try clear hcz41_1
         try clear hcz9_0
         try clear hcz9_1
         try clear hcz9_2
         try clear hfz21_0
         try clear hfz21_1
         try clear hfz27_0
         try clear hfz27_1
         try clear hfz35_0
         try clear hfz35_1
         try clear hfz38_0
         try clear hfz38_1
         try clear hfz41_0
         try clear hfz41_1
         try clear hfz9_0
         try clear hfz9_1
         try clear hfz9_2
         try clear p2
         try clear p6
         try clear q6
         obtain ⟨kq, x58_16, rfl, HA, HJ16, HO_148001, HO_154001, BK141, BK147, BK153, HB⟩ := hcut
         cases kq with
         | zero => exact absurd HA.out (by simp [spec_l03Read.j2])
         | succ kj16 =>
          have H := HA.out
          clear HA
          simp only [spec_l03Read.j2] at H
          by_cases c43 : x58_16 = true
          ·subst c43
           have H1 : (some (0, ([] : List Int), 0, false)) = some (r1, r2, r3, r4) := by rw [if_pos rfl] at H; exact H
           clear H
           have H := H1
           clear H1
           simp only [Option.some.injEq, Prod.mk.injEq] at H
           obtain ⟨rfl, rfl, rfl, rfl⟩ := H
           have hnb44 := NB141_147.out
           have hnc44 := NB147_141.out
           have hnb45 := NB141_153.out
           have hnc45 := NB153_141.out
           have hcz46_0 : wc.cell? ⟨gb141, 0, none⟩ = some (.int .i64 0) := (kc_ BK141.out 0).trans rfl
           have hcz46_1 : wc.cell? ⟨gb141, 1, none⟩ = some (.slice none 0 0) := (kc_ BK141.out 1).trans rfl
           have hcz46_2 : wc.cell? ⟨gb141, 2, none⟩ = some (.int .i64 0) := (kc_ BK141.out 2).trans rfl
           have hfz46_0 := kf_ BK141.out 0
           have hfz46_1 := kf_ BK141.out 1
           have hfz46_2 := kf_ BK141.out 2
           go_wp2
           refine bodyPost_ret (results_ct rfl _ _ gb141 56 #[.int .i64 0, .slice none 0 0, .int .i64 0] (0, 0) _ rfl (by (with_reducible repeat (first | refine kN_ ?_ _ | refine kd_ ?_ | refine ka_ ?_ _)); refine blk_put (cs := #[.int .i64 0, .slice none 0 0, .int .i64 0]) ?_ 2 _ rfl; (with_reducible repeat (first | refine kN_ ?_ _ | refine kd_ ?_ | refine ka_ ?_ _)); refine blk_put (cs := #[.int .i64 0, .slice none 0 0, .int .i64 0]) ?_ 1 _ rfl; (with_reducible repeat (first | refine kN_ ?_ _ | refine kd_ ?_ | refine ka_ ?_ _)); refine blk_put (cs := #[.int .i64 0, .slice none 0 0, .int .i64 0]) ?_ 0 _ rfl; (with_reducible repeat (first | refine kN_ ?_ _ | refine kd_ ?_ | refine ka_ ?_ _)); exact BK141.out) Tryz.underlying56 rfl (by kernel_rfl)) rfl ?_
           exact ⟨_, by first | rfl | (simp [eN_, eS_] <;> rfl) | (simp only [← hji13]; first | rfl | (simp [eN_, eS_] <;> rfl)) | (simp [*, eN_, eS_] <;> rfl), by first | exact Kd.R_nil _ _ _ _ _ | exact Kd.N_nil _ _ _ _ _ | exact Kd.V_nil _ _ _ _ _ | exact Kd.Q_nil _ _ _ _ _ | exact Kd.S_nil _ _ _ _ _, by repeat (first | (with_reducible first | exact HB.out | apply ba_ | apply pN_ | apply bd_ | refine bs_ ?_ GE141.out | refine bs_ ?_ GE147.out | refine bs_ ?_ GE153.out) | exact HB.out)⟩
          ·replace c43 := Bool.eq_false_iff.mpr c43
           subst c43
           have H1 : (if (t149.length : Int) = 1 then (if 0 < (t149.length : Int) then ((spec_l03Is.f kj16 t142 t143 (wrap64 (t148 * (rd t149 0)))).bind fun t157 => (some (t142, t143, wrap64 (t148 * (rd t149 0)), t157))) else (none)) else ((spec_l03Is.f kj16 t142 t143 0).bind fun t158 => (some (t142, t143, 0, t158)))) = some (r1, r2, r3, r4) := by rw [if_neg (show ¬ (false = true) by decide)] at H; exact H
           clear H
           have H := H1
           clear H1
           by_cases c47 : (t149.length : Int) = 1
           ·rw [if_pos c47] at H
            have c47b0 : ((t149.length : Int) == 1) = true := beq_iff_eq.mpr c47
            have c47b1 : ((t149.length : Int) != 1) = false := bne_eq_false_iff_eq.mpr c47
            clear c47
            by_cases c48 : 0 < (t149.length : Int)
            ·rw [if_pos c48] at H
             have c48b0 : decide (0 < (t149.length : Int)) = true := decide_eq_true c48
             have c48b1 : decide (0 < t149.length) = true := decide_eq_true (by omega)
             clear c48
             replace H := Option.bind_eq_some_iff.mp H
             obtain ⟨t157, A490, H⟩ := H
             replace H : (some (t142, t143, wrap64 (t148 * (rd t149 0)), t157)) = some (r1, r2, r3, r4) := H
             have A49 := As_.mk A490
             clear A490
             simp only [Option.some.injEq, Prod.mk.injEq] at H
             obtain ⟨rfl, rfl, rfl, rfl⟩ := H
             have hnb50 := NB147_141.out
             have hnc50 := NB141_147.out
             have hnb51 := NB147_153.out
             have hnc51 := NB153_147.out
             have hcz52_0 : wc.cell? ⟨gb147, 0, none⟩ = some (.int .i64 t142) := (kc_ BK147.out 0).trans rfl
             have hcz52_1 : wc.cell? ⟨gb147, 1, none⟩ = some (.slice Ao22 t143.length co22) := (kc_ BK147.out 1).trans rfl
             have hfz52_0 := kf_ BK147.out 0
             have hfz52_1 := kf_ BK147.out 1
             try go_wp2_with (first | ((with_reducible refine gate_dst (N := 9) rfl ?_); (try (refine gate_guard (by rfl) ?_; dsimp only)); refine box_event ?hg (N := 9) ?hd (cs := #[.int .i64 0, .slice none 0 0, .int .i64 0]) (t := 56) ?hr ?_; (case hd => rfl); (case hg => rfl); (case hr => first | (go_simp; done) | (go_simp; rfl)); intro gb155 hg w53 hbox hb; have n0_ := As_.mk (Kd.R_below (by (with_reducible repeat (first | apply Kd.R_alloc | apply Kd.R_drewN | apply Kd.R_drew)); exact HO_148001.out) hb); have n1_ := As_.mk (Kd.R_below (by (with_reducible repeat (first | apply Kd.R_alloc | apply Kd.R_drewN | apply Kd.R_drew)); exact HO_154001.out) hb); have n2_ := As_.mk (kb_ (g := gb141) (o := .cells #[.int .i64 0, .slice none 0 0, .int .i64 0] 56 (0, 0)) (by (with_reducible repeat (first | refine kN_ ?_ _ | refine kd_ ?_ | refine ka_ ?_ _)); exact BK141.out) hb); have n3_ := As_.mk (kb_ (g := gb147) (o := .cells #[.int .i64 t142, .slice Ao22 t143.length co22] 54 (0, 0)) (by (with_reducible repeat (first | refine kN_ ?_ _ | refine kd_ ?_ | refine ka_ ?_ _)); exact BK147.out) hb); have n4_ := As_.mk (kb_ (g := gb153) (o := .cells #[.int .i64 t148, .slice Ao28 t149.length co28] 54 (0, 0)) (by (with_reducible repeat (first | refine kN_ ?_ _ | refine kd_ ?_ | refine ka_ ?_ _)); exact BK153.out) hb); have n5_ := As_.mk (bp_ (by repeat (first | (with_reducible first | exact HB.out | apply ba_ | apply pN_ | apply bd_ | refine bs_ ?_ GE141.out | refine bs_ ?_ GE147.out | refine bs_ ?_ GE153.out) | exact HB.out)) hb); have n6_ := As_.mk (hbox); have n7_ := As_.mk ((by rw [hg]; exact (bz_ (by repeat (first | (with_reducible first | exact HB.out | apply ba_ | apply pN_ | apply bd_ | refine bs_ ?_ GE141.out | refine bs_ ?_ GE147.out | refine bs_ ?_ GE153.out) | exact HB.out))) : w.heap.size ≤ gb155)); have n8_ := As_.mk ((by rw [hg]; exact (bz_ (by repeat (first | (with_reducible first | exact HB.out | apply ba_ | apply pN_ | apply bd_ | refine bs_ ?_ GE141.out | refine bs_ ?_ GE147.out | refine bs_ ?_ GE153.out) | exact HB.out))) : w.heap.size ≤ gb155)); have n9_ := As_.mk ((by rw [hg]; exact Nat.ne_of_lt (blk_lt (g := gb141) (o := .cells #[.int .i64 0, .slice none 0 0, .int .i64 0] 56 (0, 0)) (by (with_reducible repeat (first | refine kN_ ?_ _ | refine kd_ ?_ | refine ka_ ?_ _)); exact BK141.out)) : gb141 ≠ gb155)); have n10_ := As_.mk ((by rw [hg]; exact Nat.ne_of_gt (blk_lt (g := gb141) (o := .cells #[.int .i64 0, .slice none 0 0, .int .i64 0] 56 (0, 0)) (by (with_reducible repeat (first | refine kN_ ?_ _ | refine kd_ ?_ | refine ka_ ?_ _)); exact BK141.out)) : gb155 ≠ gb141)); have n11_ := As_.mk ((by rw [hg]; exact Nat.ne_of_lt (blk_lt (g := gb147) (o := .cells #[.int .i64 t142, .slice Ao22 t143.length co22] 54 (0, 0)) (by (with_reducible repeat (first | refine kN_ ?_ _ | refine kd_ ?_ | refine ka_ ?_ _)); exact BK147.out)) : gb147 ≠ gb155)); have n12_ := As_.mk ((by rw [hg]; exact Nat.ne_of_gt (blk_lt (g := gb147) (o := .cells #[.int .i64 t142, .slice Ao22 t143.length co22] 54 (0, 0)) (by (with_reducible repeat (first | refine kN_ ?_ _ | refine kd_ ?_ | refine ka_ ?_ _)); exact BK147.out)) : gb155 ≠ gb147)); have n13_ := As_.mk ((by rw [hg]; exact Nat.ne_of_lt (blk_lt (g := gb153) (o := .cells #[.int .i64 t148, .slice Ao28 t149.length co28] 54 (0, 0)) (by (with_reducible repeat (first | refine kN_ ?_ _ | refine kd_ ?_ | refine ka_ ?_ _)); exact BK153.out)) : gb153 ≠ gb155)); have n14_ := As_.mk ((by rw [hg]; exact Nat.ne_of_gt (blk_lt (g := gb153) (o := .cells #[.int .i64 t148, .slice Ao28 t149.length co28] 54 (0, 0)) (by (with_reducible repeat (first | refine kN_ ?_ _ | refine kd_ ?_ | refine ka_ ?_ _)); exact BK153.out)) : gb155 ≠ gb153)); clear HO_148001; clear HO_154001; clear BK141; clear BK147; clear BK153; clear HB; have HO_148001 := n0_; have HO_154001 := n1_; have BK141 := n2_; have BK147 := n3_; have BK153 := n4_; have HB := n5_; have BK155 := n6_; have GW155 := n7_; have GE155 := n8_; have NB141_155 := n9_; have NB155_141 := n10_; have NB147_155 := n11_; have NB155_147 := n12_; have NB153_155 := n13_; have NB155_153 := n14_; clear n0_ n1_ n2_ n3_ n4_ n5_ n6_ n7_ n8_ n9_ n10_ n11_ n12_ n13_ n14_; clear hb hbox hg; have hnb54 := NB155_141.out; have hnc54 := NB141_155.out; have hnb55 := NB155_147.out; have hnc55 := NB147_155.out; have hnb56 := NB155_153.out; have hnc56 := NB153_155.out; have hcz57_0 : w53.cell? ⟨gb155, 0, none⟩ = some (.int .i64 0) := (kc_ BK155.out 0).trans rfl; have hcz57_1 : w53.cell? ⟨gb155, 1, none⟩ = some (.slice none 0 0) := (kc_ BK155.out 1).trans rfl; have hcz57_2 : w53.cell? ⟨gb155, 2, none⟩ = some (.int .i64 0) := (kc_ BK155.out 2).trans rfl; have hfz57_0 := kf_ BK155.out 0; have hfz57_1 := kf_ BK155.out 1; have hfz57_2 := kf_ BK155.out 2; have hnb58 := NB153_141.out; have hnc58 := NB141_153.out; have hcz59_0 : w53.cell? ⟨gb153, 0, none⟩ = some (.int .i64 t148) := (kc_ BK153.out 0).trans rfl; have hcz59_1 : w53.cell? ⟨gb153, 1, none⟩ = some (.slice Ao28 t149.length co28) := (kc_ BK153.out 1).trans rfl; have hfz59_0 := kf_ BK153.out 0; have hfz59_1 := kf_ BK153.out 1))
             have n0_ : As_ (Kd.R (Kd.int .i64) 2 (((w53.setCell ⟨gb155, 0, none⟩ (.int .i64 t142)).setCell ⟨gb155, 1, none⟩ (.slice Ao22 t143.length co22)).setCell ⟨gb155, 2, none⟩ (.int .i64 0)) w.heap.size (fun k_ => some k_ ≠ (.slice Ao28 t149.length co28 : Value).ownBlock) (.slice Ao22 t143.length co22) t143) := ⟨by (with_reducible repeat (first | apply Kd.R_alloc | apply Kd.R_drewN | apply Kd.R_drew)); exact Kd.R_mono (Kd.R_far (p := ⟨gb155, 2, none⟩) (Kd.R_far (p := ⟨gb155, 1, none⟩) (Kd.R_far (p := ⟨gb155, 0, none⟩) (Kd.R_types HO_148001.out BK155.out (by decide)) (fun _ hk => hk.2) (.int .i64 t142)) (fun _ hk => hk.2) (.slice Ao22 t143.length co22)) (fun _ hk => hk.2) (.int .i64 0)) (fun _ hk => hk.1)⟩
             have n1_ : As_ (Kd.R (Kd.int .i64) 2 (((w53.setCell ⟨gb155, 0, none⟩ (.int .i64 t142)).setCell ⟨gb155, 1, none⟩ (.slice Ao22 t143.length co22)).setCell ⟨gb155, 2, none⟩ (.int .i64 0)) w.heap.size (fun k_ => some k_ ≠ (.slice Ao22 t143.length co22 : Value).ownBlock) (.slice Ao28 t149.length co28) t149) := ⟨by (with_reducible repeat (first | apply Kd.R_alloc | apply Kd.R_drewN | apply Kd.R_drew)); exact Kd.R_mono (Kd.R_far (p := ⟨gb155, 2, none⟩) (Kd.R_far (p := ⟨gb155, 1, none⟩) (Kd.R_far (p := ⟨gb155, 0, none⟩) (Kd.R_types HO_154001.out BK155.out (by decide)) (fun _ hk => hk.2) (.int .i64 t142)) (fun _ hk => hk.2) (.slice Ao22 t143.length co22)) (fun _ hk => hk.2) (.int .i64 0)) (fun _ hk => hk.1)⟩
             have n2_ : As_ ((((w53.setCell ⟨gb155, 0, none⟩ (.int .i64 t142)).setCell ⟨gb155, 1, none⟩ (.slice Ao22 t143.length co22)).setCell ⟨gb155, 2, none⟩ (.int .i64 0)).heap[gb141]? = some (.cells #[.int .i64 0, .slice none 0 0, .int .i64 0] 56 (0, 0))) := ⟨by (with_reducible repeat (first | refine kN_ ?_ _ | refine kd_ ?_ | refine ka_ ?_ _)); refine blk_far ?_ NB141_155.out _; (with_reducible repeat (first | refine kN_ ?_ _ | refine kd_ ?_ | refine ka_ ?_ _)); refine blk_far ?_ NB141_155.out _; (with_reducible repeat (first | refine kN_ ?_ _ | refine kd_ ?_ | refine ka_ ?_ _)); refine blk_far ?_ NB141_155.out _; (with_reducible repeat (first | refine kN_ ?_ _ | refine kd_ ?_ | refine ka_ ?_ _)); exact BK141.out⟩
             have n3_ : As_ ((((w53.setCell ⟨gb155, 0, none⟩ (.int .i64 t142)).setCell ⟨gb155, 1, none⟩ (.slice Ao22 t143.length co22)).setCell ⟨gb155, 2, none⟩ (.int .i64 0)).heap[gb147]? = some (.cells #[.int .i64 t142, .slice Ao22 t143.length co22] 54 (0, 0))) := ⟨by (with_reducible repeat (first | refine kN_ ?_ _ | refine kd_ ?_ | refine ka_ ?_ _)); refine blk_far ?_ NB147_155.out _; (with_reducible repeat (first | refine kN_ ?_ _ | refine kd_ ?_ | refine ka_ ?_ _)); refine blk_far ?_ NB147_155.out _; (with_reducible repeat (first | refine kN_ ?_ _ | refine kd_ ?_ | refine ka_ ?_ _)); refine blk_far ?_ NB147_155.out _; (with_reducible repeat (first | refine kN_ ?_ _ | refine kd_ ?_ | refine ka_ ?_ _)); exact BK147.out⟩
             have n4_ : As_ ((((w53.setCell ⟨gb155, 0, none⟩ (.int .i64 t142)).setCell ⟨gb155, 1, none⟩ (.slice Ao22 t143.length co22)).setCell ⟨gb155, 2, none⟩ (.int .i64 0)).heap[gb153]? = some (.cells #[.int .i64 t148, .slice Ao28 t149.length co28] 54 (0, 0))) := ⟨by (with_reducible repeat (first | refine kN_ ?_ _ | refine kd_ ?_ | refine ka_ ?_ _)); refine blk_far ?_ NB153_155.out _; (with_reducible repeat (first | refine kN_ ?_ _ | refine kd_ ?_ | refine ka_ ?_ _)); refine blk_far ?_ NB153_155.out _; (with_reducible repeat (first | refine kN_ ?_ _ | refine kd_ ?_ | refine ka_ ?_ _)); refine blk_far ?_ NB153_155.out _; (with_reducible repeat (first | refine kN_ ?_ _ | refine kd_ ?_ | refine ka_ ?_ _)); exact BK153.out⟩
             have n5_ : As_ ((((w53.setCell ⟨gb155, 0, none⟩ (.int .i64 t142)).setCell ⟨gb155, 1, none⟩ (.slice Ao22 t143.length co22)).setCell ⟨gb155, 2, none⟩ (.int .i64 0)).heap[gb155]? = some (.cells #[.int .i64 t142, .slice Ao22 t143.length co22, .int .i64 0] 56 (0, 0))) := ⟨by (with_reducible repeat (first | refine kN_ ?_ _ | refine kd_ ?_ | refine ka_ ?_ _)); refine blk_put (cs := #[.int .i64 t142, .slice Ao22 t143.length co22, .int .i64 0]) ?_ 2 _ rfl; (with_reducible repeat (first | refine kN_ ?_ _ | refine kd_ ?_ | refine ka_ ?_ _)); refine blk_put (cs := #[.int .i64 t142, .slice none 0 0, .int .i64 0]) ?_ 1 _ rfl; (with_reducible repeat (first | refine kN_ ?_ _ | refine kd_ ?_ | refine ka_ ?_ _)); refine blk_put (cs := #[.int .i64 0, .slice none 0 0, .int .i64 0]) ?_ 0 _ rfl; (with_reducible repeat (first | refine kN_ ?_ _ | refine kd_ ?_ | refine ka_ ?_ _)); exact BK155.out⟩
             have n6_ : As_ (Below w.heap.size w (((w53.setCell ⟨gb155, 0, none⟩ (.int .i64 t142)).setCell ⟨gb155, 1, none⟩ (.slice Ao22 t143.length co22)).setCell ⟨gb155, 2, none⟩ (.int .i64 0))) := ⟨by repeat (first | (with_reducible first | exact HB.out | apply ba_ | apply pN_ | apply bd_ | refine bs_ ?_ GE141.out | refine bs_ ?_ GE147.out | refine bs_ ?_ GE153.out | refine bs_ ?_ GE155.out) | exact HB.out)⟩
             (try clear HO_148001)
             (try clear HO_154001)
             (try clear BK141)
             (try clear BK147)
             (try clear BK153)
             (try clear BK155)
             (try clear HB)
             generalize (((w53.setCell ⟨gb155, 0, none⟩ (.int .i64 t142)).setCell ⟨gb155, 1, none⟩ (.slice Ao22 t143.length co22)).setCell ⟨gb155, 2, none⟩ (.int .i64 0)) = w60 at n0_ n1_ n2_ n3_ n4_ n5_ n6_ ⊢
             have HO_148001 := n0_
             have HO_154001 := n1_
             have BK141 := n2_
             have BK147 := n3_
             have BK153 := n4_
             have BK155 := n5_
             have HB := n6_
             clear n0_ n1_ n2_ n3_ n4_ n5_ n6_
             have n0_ := As_.mk (Kd.R_drew HO_148001.out)
             have n1_ := As_.mk (Kd.R_drew HO_154001.out)
             have n2_ := As_.mk (kd_ BK141.out)
             have n3_ := As_.mk (kd_ BK147.out)
             have n4_ := As_.mk (kd_ BK153.out)
             have n5_ := As_.mk (kd_ BK155.out)
             have n6_ := As_.mk (bd_ HB.out)
             clear HO_148001
             clear HO_154001
             clear BK141
             clear BK147
             clear BK153
             clear BK155
             clear HB
             have HO_148001 := n0_
             have HO_154001 := n1_
             have BK141 := n2_
             have BK147 := n3_
             have BK153 := n4_
             have BK155 := n5_
             have HB := n6_
             clear n0_ n1_ n2_ n3_ n4_ n5_ n6_
             have p156 : 0 ≤ (0 : Int) := (by omega)
             have q156 : 0 < (t149.length : Int) := of_decide_eq_true (by first | (with_reducible assumption) | assumption)
             obtain ⟨ad156, e156, hx156_0⟩ := Kd.at_int (Kd.R_reads' HO_154001.out).2.2 0 p156 q156
             cases e156
             have qi156 : (0 < t149.length) = True := eq_true (by omega)
             (try rw [show ((0 : Int)).toNat = 0 from rfl] at hx156_0)
             (try rw [Addr.add_zero'] at hx156_0)
             replace p156 := eq_true p156
             replace q156 := eq_true q156
             refine start_ (n := 9) (S := fun w' => w'.cell? ⟨gb153, 0, none⟩ = some (.int .i64 t148) ∧ w'.cell? ⟨gb153, 1, none⟩ = some (.slice (some ad156) t149.length co28) ∧ w'.cell? ad156 = some (.int .i64 (rd t149 0))) (ds := []) #[false, false, false, false, false, false, false, false, false] (by kernel_rfl) rfl rfl ⟨(kc_ BK153.out 0).trans rfl, (kc_ BK153.out 1).trans rfl, hx156_0⟩ (fun hHeld => ?_); refine with_tabW spec_l03Read.tab12 spec_l03Read.bits12 (fun HT_ HW_ => ?_)
             generalize w60.drew = w61 at HO_148001 HO_154001 BK141 BK147 BK153 BK155 HB hx156_0 hHeld ⊢
             refine pure_ (i := 0) (N := some 66) (v := ?_) (a' := ?_) #[true, false, false, false, false, false, false, false, false] rfl rfl (any_of HT_.out (by kernel_rfl)) (fun _ _ _ h => h) (Or.inl ⟨by rfl, ?_⟩) ?_ ?_
             rotate_left
             ·intro w'
              go_simp
              with_reducible rfl
             rotate_left
             ·simp only [Act.put, List.setIfInBounds_toArray, List.set_cons_zero, List.set_cons_succ, i64_w, i32_w]
              rfl
             refine pure_ (i := 2) (N := some 68) (v := ?_) (a' := ?_) #[true, false, true, false, false, false, false, false, false] rfl rfl (any_of HT_.out (by kernel_rfl)) (fun _ _ _ h => h) (Or.inl ⟨by rfl, ?_⟩) ?_ ?_
             rotate_left
             ·intro w'
              go_simp
              with_reducible rfl
             rotate_left
             ·simp only [Act.put, List.setIfInBounds_toArray, List.set_cons_zero, List.set_cons_succ, i64_w, i32_w]
              rfl
             refine take_ (i := 1) (N := some 67) (v := ?_) (a' := ?_) #[true, true, true, false, false, false, false, false, false] rfl rfl (take_ofW HT_.out HW_.out (by kernel_rfl)) (fun _ _ _ h => h) (Or.inl ⟨by rfl, ?_⟩) hHeld ?_ ?_
             rotate_left
             ·rintro w' ⟨s0, s1, s2⟩
              go_simp
              with_reducible rfl
             rotate_left
             ·simp only [Act.put, List.setIfInBounds_toArray, List.set_cons_zero, List.set_cons_succ, i64_w, i32_w]
              rfl
             refine take_ (i := 3) (N := some 69) (v := ?_) (a' := ?_) #[true, true, true, true, false, false, false, false, false] rfl rfl (take_ofW HT_.out HW_.out (by kernel_rfl)) (fun _ _ _ h => h) (Or.inl ⟨by rfl, ?_⟩) hHeld ?_ ?_
             rotate_left
             ·rintro w' ⟨s0, s1, s2⟩
              go_simp
              with_reducible rfl
             rotate_left
             ·simp only [Act.put, List.setIfInBounds_toArray, List.set_cons_zero, List.set_cons_succ, i64_w, i32_w]
              rfl
             refine pure_ (i := 4) (N := some 70) (v := ?_) (a' := ?_) #[true, true, true, true, true, false, false, false, false] rfl rfl (any_of HT_.out (by kernel_rfl)) (fun _ _ _ h => h) (Or.inl ⟨by rfl, ?_⟩) ?_ ?_
             rotate_left
             ·intro w'
              go_simp
              with_reducible rfl
             rotate_left
             ·simp only [Act.put, List.setIfInBounds_toArray, List.set_cons_zero, List.set_cons_succ, i64_w, i32_w]
              rfl
             refine take_ (i := 5) (N := some 71) (v := ?_) (a' := ?_) #[true, true, true, true, true, true, false, false, false] rfl rfl (take_ofW HT_.out HW_.out (by kernel_rfl)) (fun _ _ _ h => h) (Or.inl ⟨by rfl, ?_⟩) hHeld ?_ ?_
             rotate_left
             ·rintro w' ⟨s0, s1, s2⟩
              go_simp
              with_reducible rfl
             rotate_left
             ·simp only [Act.put, List.setIfInBounds_toArray, List.set_cons_zero, List.set_cons_succ, i64_w, i32_w]
              rfl
             refine pure_ (i := 6) (N := some 72) (v := ?_) (a' := ?_) #[true, true, true, true, true, true, true, false, false] rfl rfl (any_of HT_.out (by kernel_rfl)) (fun _ _ _ h => h) (Or.inl ⟨by rfl, ?_⟩) ?_ ?_
             rotate_left
             ·intro w'
              go_simp
              with_reducible rfl
             rotate_left
             ·simp only [Act.put, List.setIfInBounds_toArray, List.set_cons_zero, List.set_cons_succ, i64_w, i32_w]
              rfl
             refine pure_ (i := 7) (N := some 73) (v := ?_) (a' := ?_) #[true, true, true, true, true, true, true, true, false] rfl rfl (any_of HT_.out (by kernel_rfl)) (fun _ _ _ h => h) (Or.inl ⟨by rfl, ?_⟩) ?_ ?_
             rotate_left
             ·intro w'
              go_simp
              with_reducible rfl
             rotate_left
             ·simp only [Act.put, List.setIfInBounds_toArray, List.set_cons_zero, List.set_cons_succ, i64_w, i32_w]
              rfl
             refine one_ (i := 8) (N := none) #[true, true, true, true, true, true, true, true, true] rfl rfl (one_of HT_.out (by kernel_rfl)) (by decide) (fun K hK => ?_)
             have hs62 : w61.cell? ⟨gb155, 2, none⟩ = some (.int .i64 0) := (kc_ BK155.out 2).trans rfl
             have hfs62 := kf_ BK155.out 2
             have hns62_0 := NB141_155.out
             have hns62_1 := NB147_155.out
             have hns62_2 := NB153_155.out
             have hms62_0 := NB155_141.out
             have hms62_1 := NB155_147.out
             have hms62_2 := NB155_153.out
             refine skip_ (w1 := ?_) (by rfl) rfl ?_ ?_
             rotate_left
             ·go_simp
              rfl
             refine hK.out _ _ ⟨((cell_far (p := ⟨gb155, _, none⟩) NB153_155.out _).trans (hHeld.1)), ((cell_far (p := ⟨gb155, _, none⟩) NB153_155.out _).trans (hHeld.2.1)), ((cell_far (p := ⟨gb155, _, none⟩) (by first | exact Kd.own_blk (Kd.R_ne HO_154001.out BK155.out (by decide)) | (rw [add_block]; exact Kd.own_blk (Kd.R_ne HO_154001.out BK155.out (by decide))) | (show (Addr.add _ _).block ≠ _; rw [add_block]; exact Kd.own_blk (Kd.R_ne HO_154001.out BK155.out (by decide))) | (dsimp only; exact Kd.own_blk (Kd.R_ne HO_154001.out BK155.out (by decide)))) _).trans (hHeld.2.2))⟩ (fun hHeld => ?_)
             clear hK K
             refine done_ (done_of HT_.out (by kernel_rfl)) ?_
             try go_wp2
             have n0_ : As_ (Kd.R (Kd.int .i64) 2 (w61.setCell ⟨gb155, 2, none⟩ (.int .i64 (wrap64 (t148 * (rd t149 0))))) w.heap.size (fun k_ => some k_ ≠ (.slice (some ad156) t149.length co28 : Value).ownBlock) (.slice Ao22 t143.length co22) t143) := ⟨by (with_reducible repeat (first | apply Kd.R_alloc | apply Kd.R_drewN | apply Kd.R_drew)); exact Kd.R_mono (Kd.R_far (p := ⟨gb155, 2, none⟩) (Kd.R_types HO_148001.out BK155.out (by decide)) (fun _ hk => hk.2) (.int .i64 (wrap64 (t148 * (rd t149 0))))) (fun _ hk => hk.1)⟩
             have n1_ : As_ (Kd.R (Kd.int .i64) 2 (w61.setCell ⟨gb155, 2, none⟩ (.int .i64 (wrap64 (t148 * (rd t149 0))))) w.heap.size (fun k_ => some k_ ≠ (.slice Ao22 t143.length co22 : Value).ownBlock) (.slice (some ad156) t149.length co28) t149) := ⟨by (with_reducible repeat (first | apply Kd.R_alloc | apply Kd.R_drewN | apply Kd.R_drew)); exact Kd.R_mono (Kd.R_far (p := ⟨gb155, 2, none⟩) (Kd.R_types HO_154001.out BK155.out (by decide)) (fun _ hk => hk.2) (.int .i64 (wrap64 (t148 * (rd t149 0))))) (fun _ hk => hk.1)⟩
             have n2_ : As_ ((w61.setCell ⟨gb155, 2, none⟩ (.int .i64 (wrap64 (t148 * (rd t149 0))))).heap[gb141]? = some (.cells #[.int .i64 0, .slice none 0 0, .int .i64 0] 56 (0, 0))) := ⟨by (with_reducible repeat (first | refine kN_ ?_ _ | refine kd_ ?_ | refine ka_ ?_ _)); refine blk_far ?_ NB141_155.out _; (with_reducible repeat (first | refine kN_ ?_ _ | refine kd_ ?_ | refine ka_ ?_ _)); exact BK141.out⟩
             have n3_ : As_ ((w61.setCell ⟨gb155, 2, none⟩ (.int .i64 (wrap64 (t148 * (rd t149 0))))).heap[gb147]? = some (.cells #[.int .i64 t142, .slice Ao22 t143.length co22] 54 (0, 0))) := ⟨by (with_reducible repeat (first | refine kN_ ?_ _ | refine kd_ ?_ | refine ka_ ?_ _)); refine blk_far ?_ NB147_155.out _; (with_reducible repeat (first | refine kN_ ?_ _ | refine kd_ ?_ | refine ka_ ?_ _)); exact BK147.out⟩
             have n4_ : As_ ((w61.setCell ⟨gb155, 2, none⟩ (.int .i64 (wrap64 (t148 * (rd t149 0))))).heap[gb153]? = some (.cells #[.int .i64 t148, .slice (some ad156) t149.length co28] 54 (0, 0))) := ⟨by (with_reducible repeat (first | refine kN_ ?_ _ | refine kd_ ?_ | refine ka_ ?_ _)); refine blk_far ?_ NB153_155.out _; (with_reducible repeat (first | refine kN_ ?_ _ | refine kd_ ?_ | refine ka_ ?_ _)); exact BK153.out⟩
             have n5_ : As_ ((w61.setCell ⟨gb155, 2, none⟩ (.int .i64 (wrap64 (t148 * (rd t149 0))))).heap[gb155]? = some (.cells #[.int .i64 t142, .slice Ao22 t143.length co22, .int .i64 (wrap64 (t148 * (rd t149 0)))] 56 (0, 0))) := ⟨by (with_reducible repeat (first | refine kN_ ?_ _ | refine kd_ ?_ | refine ka_ ?_ _)); refine blk_put (cs := #[.int .i64 t142, .slice Ao22 t143.length co22, .int .i64 0]) ?_ 2 _ rfl; (with_reducible repeat (first | refine kN_ ?_ _ | refine kd_ ?_ | refine ka_ ?_ _)); exact BK155.out⟩
             have n6_ : As_ (Below w.heap.size w (w61.setCell ⟨gb155, 2, none⟩ (.int .i64 (wrap64 (t148 * (rd t149 0)))))) := ⟨by repeat (first | (with_reducible first | exact HB.out | apply ba_ | apply pN_ | apply bd_ | refine bs_ ?_ GE141.out | refine bs_ ?_ GE147.out | refine bs_ ?_ GE153.out | refine bs_ ?_ GE155.out) | exact HB.out)⟩
             (try clear HO_148001)
             (try clear HO_154001)
             (try clear BK141)
             (try clear BK147)
             (try clear BK153)
             (try clear BK155)
             (try clear HB)
             generalize (w61.setCell ⟨gb155, 2, none⟩ (.int .i64 (wrap64 (t148 * (rd t149 0))))) = w63 at n0_ n1_ n2_ n3_ n4_ n5_ n6_ ⊢
             have HO_148001 := n0_
             have HO_154001 := n1_
             have BK141 := n2_
             have BK147 := n3_
             have BK153 := n4_
             have BK155 := n5_
             have HB := n6_
             clear n0_ n1_ n2_ n3_ n4_ n5_ n6_
             have n0_ := As_.mk (Kd.R_drew HO_148001.out)
             have n1_ := As_.mk (Kd.R_drew HO_154001.out)
             have n2_ := As_.mk (kd_ BK141.out)
             have n3_ := As_.mk (kd_ BK147.out)
             have n4_ := As_.mk (kd_ BK153.out)
             have n5_ := As_.mk (kd_ BK155.out)
             have n6_ := As_.mk (bd_ HB.out)
             clear HO_148001
             clear HO_154001
             clear BK141
             clear BK147
             clear BK153
             clear BK155
             clear HB
             have HO_148001 := n0_
             have HO_154001 := n1_
             have BK141 := n2_
             have BK147 := n3_
             have BK153 := n4_
             have BK155 := n5_
             have HB := n6_
             clear n0_ n1_ n2_ n3_ n4_ n5_ n6_
             refine start_ (n := 5) (S := fun w' => w'.cell? ⟨gb155, 0, none⟩ = some (.int .i64 t142) ∧ w'.cell? ⟨gb155, 1, none⟩ = some (.slice Ao22 t143.length co22) ∧ w'.cell? ⟨gb155, 2, none⟩ = some (.int .i64 (wrap64 (t148 * (rd t149 0))))) (ds := []) #[false, false, false, false, false] (by kernel_rfl) rfl rfl ⟨(kc_ BK155.out 0).trans rfl, (kc_ BK155.out 1).trans rfl, (kc_ BK155.out 2).trans rfl⟩ (fun hHeld => ?_)
             generalize w63.drew = w64 at HO_148001 HO_154001 BK141 BK147 BK153 BK155 HB hHeld ⊢
             refine take_ (i := 0) (N := some 74) (v := ?_) (a' := ?_) #[true, false, false, false, false] rfl rfl (by kernel_rfl) (fun _ _ _ h => h) (Or.inl ⟨by rfl, ?_⟩) hHeld ?_ ?_
             rotate_left
             ·rintro w' ⟨s0, s1, s2⟩
              go_simp
              with_reducible rfl
             rotate_left
             ·simp only [Act.put, List.setIfInBounds_toArray, List.set_cons_zero, List.set_cons_succ, i64_w, i32_w]
              rfl
             refine take_ (i := 1) (N := some 75) (v := ?_) (a' := ?_) #[true, true, false, false, false] rfl rfl (by kernel_rfl) (fun _ _ _ h => h) (Or.inl ⟨by rfl, ?_⟩) hHeld ?_ ?_
             rotate_left
             ·rintro w' ⟨s0, s1, s2⟩
              go_simp
              with_reducible rfl
             rotate_left
             ·simp only [Act.put, List.setIfInBounds_toArray, List.set_cons_zero, List.set_cons_succ, i64_w, i32_w]
              rfl
             refine one_ (i := 2) (N := some 76) #[true, true, true, false, false] rfl rfl (by kernel_rfl) (by decide) (fun K hK => ?_)
             refine goes_ Tryz.func117 (by kernel_rfl) rfl #[.agg #[.int .i64 t142, .slice Ao22 t143.length co22, .int .i64 (wrap64 (t148 * (rd t149 0)))]] (by rfl) rfl rfl (by (try simp only [List.map_toArray, List.map_cons, List.map_nil]); first | done | rfl | (simp only [List.length_drop, List.length_take]; rfl)) ?_
             with_reducible refine (spec_l03Is.calls kj16 t142 _ _ t143 (wrap64 (t148 * (rd t149 0))) t157 _ ?side1 ?side2 A49.out).mono ?_
             (case side1 => repeat (first | exact (Kd.R_reads' HO_148001.out).2.2 | (with_reducible refine Kd.C_alloc ?_ _) | (with_reducible refine Kd.C_drewN ?_ _) | (with_reducible refine Kd.C_drew ?_)))
             (case side2 => exact (Kd.R_reads' HO_148001.out).2.1)
             rintro e w65 ⟨rfl, hb⟩
             refine ⟨_, rfl, ?_⟩
             have n0_ := As_.mk (Kd.R_below (by (with_reducible repeat (first | apply Kd.R_alloc | apply Kd.R_drewN | apply Kd.R_drew)); exact HO_148001.out) hb)
             have n1_ := As_.mk (Kd.R_below (by (with_reducible repeat (first | apply Kd.R_alloc | apply Kd.R_drewN | apply Kd.R_drew)); exact HO_154001.out) hb)
             have n2_ := As_.mk (kb_ (g := gb141) (o := .cells #[.int .i64 0, .slice none 0 0, .int .i64 0] 56 (0, 0)) (by (with_reducible repeat (first | refine kN_ ?_ _ | refine kd_ ?_ | refine ka_ ?_ _)); exact BK141.out) hb)
             have n3_ := As_.mk (kb_ (g := gb147) (o := .cells #[.int .i64 t142, .slice Ao22 t143.length co22] 54 (0, 0)) (by (with_reducible repeat (first | refine kN_ ?_ _ | refine kd_ ?_ | refine ka_ ?_ _)); exact BK147.out) hb)
             have n4_ := As_.mk (kb_ (g := gb153) (o := .cells #[.int .i64 t148, .slice (some ad156) t149.length co28] 54 (0, 0)) (by (with_reducible repeat (first | refine kN_ ?_ _ | refine kd_ ?_ | refine ka_ ?_ _)); exact BK153.out) hb)
             have n5_ := As_.mk (kb_ (g := gb155) (o := .cells #[.int .i64 t142, .slice Ao22 t143.length co22, .int .i64 (wrap64 (t148 * (rd t149 0)))] 56 (0, 0)) (by (with_reducible repeat (first | refine kN_ ?_ _ | refine kd_ ?_ | refine ka_ ?_ _)); exact BK155.out) hb)
             have n6_ := As_.mk (bp_ (by repeat (first | (with_reducible first | exact HB.out | apply ba_ | apply pN_ | apply bd_ | refine bs_ ?_ GE141.out | refine bs_ ?_ GE147.out | refine bs_ ?_ GE153.out | refine bs_ ?_ GE155.out) | exact HB.out)) hb)
             clear HO_148001
             clear HO_154001
             clear BK141
             clear BK147
             clear BK153
             clear BK155
             clear HB
             have HO_148001 := n0_
             have HO_154001 := n1_
             have BK141 := n2_
             have BK147 := n3_
             have BK153 := n4_
             have BK155 := n5_
             have HB := n6_
             clear n0_ n1_ n2_ n3_ n4_ n5_ n6_
             (try clear hb)
             (try clear hb2)
             (try clear hk)
             (try clear hi)
             refine hK.out _ _ ⟨(kc_ BK155.out 0).trans rfl, (kc_ BK155.out 1).trans rfl, (kc_ BK155.out 2).trans rfl⟩ (fun hHeld => ?_)
             clear hK K
             refine norm_ (a' := ?_) ?_ ?_
             rotate_left
             ·show Act.put _ (some 76) _ = _
              simp only [Act.put, List.setIfInBounds_toArray, List.set_cons_zero, List.set_cons_succ, i64_w, i32_w]
              rfl
             refine one_ (i := 3) (N := none) #[true, true, true, true, false] rfl rfl (by kernel_rfl) (by decide) (fun K hK => ?_)
             have hs66 : w65.cell? ⟨gb141, 0, none⟩ = some (.int .i64 0) := (kc_ BK141.out 0).trans rfl
             have hfs66 := kf_ BK141.out 0
             have hns66_1 := NB147_141.out
             have hns66_2 := NB153_141.out
             have hns66_3 := NB155_141.out
             have hms66_1 := NB141_147.out
             have hms66_2 := NB141_153.out
             have hms66_3 := NB141_155.out
             have hs67 : w65.cell? ⟨gb141, 1, none⟩ = some (.slice none 0 0) := (kc_ BK141.out 1).trans rfl
             have hfs67 := kf_ BK141.out 1
             have hns67_1 := NB147_141.out
             have hns67_2 := NB153_141.out
             have hns67_3 := NB155_141.out
             have hms67_1 := NB141_147.out
             have hms67_2 := NB141_153.out
             have hms67_3 := NB141_155.out
             have hs68 : w65.cell? ⟨gb141, 2, none⟩ = some (.int .i64 0) := (kc_ BK141.out 2).trans rfl
             have hfs68 := kf_ BK141.out 2
             have hns68_1 := NB147_141.out
             have hns68_2 := NB153_141.out
             have hns68_3 := NB155_141.out
             have hms68_1 := NB141_147.out
             have hms68_2 := NB141_153.out
             have hms68_3 := NB141_155.out
             refine skip_ (w1 := ?_) (by rfl) rfl ?_ ?_
             rotate_left
             ·go_simp
              rfl
             refine hK.out _ _ ⟨((cell_far (p := ⟨gb141, _, none⟩) NB155_141.out _).trans (((cell_far (p := ⟨gb141, _, none⟩) NB155_141.out _).trans (((cell_far (p := ⟨gb141, _, none⟩) NB155_141.out _).trans (hHeld.1)))))), ((cell_far (p := ⟨gb141, _, none⟩) NB155_141.out _).trans (((cell_far (p := ⟨gb141, _, none⟩) NB155_141.out _).trans (((cell_far (p := ⟨gb141, _, none⟩) NB155_141.out _).trans (hHeld.2.1)))))), ((cell_far (p := ⟨gb141, _, none⟩) NB155_141.out _).trans (((cell_far (p := ⟨gb141, _, none⟩) NB155_141.out _).trans (((cell_far (p := ⟨gb141, _, none⟩) NB155_141.out _).trans (hHeld.2.2))))))⟩ (fun hHeld => ?_)
             clear hK K
             refine pure_ (i := 4) (N := some 3) (v := ?_) (a' := ?_) #[true, true, true, true, true] rfl rfl (by kernel_rfl) (fun _ _ _ h => h) (Or.inl ⟨by rfl, ?_⟩) ?_ ?_
             rotate_left
             ·intro w'
              go_simp
              with_reducible rfl
             rotate_left
             ·simp only [Act.put, List.setIfInBounds_toArray, List.set_cons_zero, List.set_cons_succ, i64_w, i32_w]
              rfl
             refine done_ (by kernel_rfl) ?_
             try go_wp2
             refine bodyPost_ret (results_ct rfl _ _ gb141 56 #[.int .i64 t142, .slice Ao22 t143.length co22, .int .i64 (wrap64 (t148 * (rd t149 0)))] (0, 0) _ rfl (by (with_reducible repeat (first | refine kN_ ?_ _ | refine kd_ ?_ | refine ka_ ?_ _)); refine blk_put (cs := #[.int .i64 t142, .slice Ao22 t143.length co22, .int .i64 0]) ?_ 2 _ rfl; (with_reducible repeat (first | refine kN_ ?_ _ | refine kd_ ?_ | refine ka_ ?_ _)); refine blk_put (cs := #[.int .i64 t142, .slice none 0 0, .int .i64 0]) ?_ 1 _ rfl; (with_reducible repeat (first | refine kN_ ?_ _ | refine kd_ ?_ | refine ka_ ?_ _)); refine blk_put (cs := #[.int .i64 0, .slice none 0 0, .int .i64 0]) ?_ 0 _ rfl; (with_reducible repeat (first | refine kN_ ?_ _ | refine kd_ ?_ | refine ka_ ?_ _)); exact BK141.out) Tryz.underlying56 rfl (by kernel_rfl)) rfl ?_
             exact ⟨_, by first | rfl | (simp [eN_, eS_] <;> rfl) | (simp only [← hji13]; first | rfl | (simp [eN_, eS_] <;> rfl)) | (simp [*, eN_, eS_] <;> rfl), by (with_reducible repeat (first | apply Kd.R_alloc | apply Kd.R_drewN | apply Kd.R_drew)); exact Kd.R_mono (Kd.R_far (p := ⟨gb141, 2, none⟩) (Kd.R_far (p := ⟨gb141, 1, none⟩) (Kd.R_far (p := ⟨gb141, 0, none⟩) (Kd.R_types HO_148001.out BK141.out (by decide)) (fun _ hk => hk.2) (.int .i64 t142)) (fun _ hk => hk.2) (.slice Ao22 t143.length co22)) (fun _ hk => hk.2) (.int .i64 (wrap64 (t148 * (rd t149 0))))) (fun _ hk => trivial), by repeat (first | (with_reducible first | exact HB.out | apply ba_ | apply pN_ | apply bd_ | refine bs_ ?_ GE141.out | refine bs_ ?_ GE147.out | refine bs_ ?_ GE153.out | refine bs_ ?_ GE155.out) | exact HB.out)⟩
            ·rw [if_neg c48] at H
             exact absurd H (by simp)
           ·rw [if_neg c47] at H
            have c47b0 : ((t149.length : Int) == 1) = false := beq_eq_false_iff_ne.mpr c47
            have c47b1 : ((t149.length : Int) != 1) = true := bne_iff_ne.mpr c47
            replace H := Option.bind_eq_some_iff.mp H
            obtain ⟨t158, A690, H⟩ := H
            replace H : (some (t142, t143, 0, t158)) = some (r1, r2, r3, r4) := H
            have A69 := As_.mk A690
            clear A690
            simp only [Option.some.injEq, Prod.mk.injEq] at H
            obtain ⟨rfl, rfl, rfl, rfl⟩ := H
            have hnb70 := NB147_141.out
            have hnc70 := NB141_147.out
            have hnb71 := NB147_153.out
            have hnc71 := NB153_147.out
            have hcz72_0 : wc.cell? ⟨gb147, 0, none⟩ = some (.int .i64 t142) := (kc_ BK147.out 0).trans rfl
            have hcz72_1 : wc.cell? ⟨gb147, 1, none⟩ = some (.slice Ao22 t143.length co22) := (kc_ BK147.out 1).trans rfl
            have hfz72_0 := kf_ BK147.out 0
            have hfz72_1 := kf_ BK147.out 1
            try go_wp2_with (first | ((with_reducible refine gate_dst (N := 9) rfl ?_); (try (refine gate_guard (by rfl) ?_; dsimp only)); refine box_event ?hg (N := 9) ?hd (cs := #[.int .i64 0, .slice none 0 0, .int .i64 0]) (t := 56) ?hr ?_; (case hd => rfl); (case hg => rfl); (case hr => first | (go_simp; done) | (go_simp; rfl)); intro gb155 hg w73 hbox hb; have n0_ := As_.mk (Kd.R_below (by (with_reducible repeat (first | apply Kd.R_alloc | apply Kd.R_drewN | apply Kd.R_drew)); exact HO_148001.out) hb); have n1_ := As_.mk (Kd.R_below (by (with_reducible repeat (first | apply Kd.R_alloc | apply Kd.R_drewN | apply Kd.R_drew)); exact HO_154001.out) hb); have n2_ := As_.mk (kb_ (g := gb141) (o := .cells #[.int .i64 0, .slice none 0 0, .int .i64 0] 56 (0, 0)) (by (with_reducible repeat (first | refine kN_ ?_ _ | refine kd_ ?_ | refine ka_ ?_ _)); exact BK141.out) hb); have n3_ := As_.mk (kb_ (g := gb147) (o := .cells #[.int .i64 t142, .slice Ao22 t143.length co22] 54 (0, 0)) (by (with_reducible repeat (first | refine kN_ ?_ _ | refine kd_ ?_ | refine ka_ ?_ _)); exact BK147.out) hb); have n4_ := As_.mk (kb_ (g := gb153) (o := .cells #[.int .i64 t148, .slice Ao28 t149.length co28] 54 (0, 0)) (by (with_reducible repeat (first | refine kN_ ?_ _ | refine kd_ ?_ | refine ka_ ?_ _)); exact BK153.out) hb); have n5_ := As_.mk (bp_ (by repeat (first | (with_reducible first | exact HB.out | apply ba_ | apply pN_ | apply bd_ | refine bs_ ?_ GE141.out | refine bs_ ?_ GE147.out | refine bs_ ?_ GE153.out) | exact HB.out)) hb); have n6_ := As_.mk (hbox); have n7_ := As_.mk ((by rw [hg]; exact (bz_ (by repeat (first | (with_reducible first | exact HB.out | apply ba_ | apply pN_ | apply bd_ | refine bs_ ?_ GE141.out | refine bs_ ?_ GE147.out | refine bs_ ?_ GE153.out) | exact HB.out))) : w.heap.size ≤ gb155)); have n8_ := As_.mk ((by rw [hg]; exact (bz_ (by repeat (first | (with_reducible first | exact HB.out | apply ba_ | apply pN_ | apply bd_ | refine bs_ ?_ GE141.out | refine bs_ ?_ GE147.out | refine bs_ ?_ GE153.out) | exact HB.out))) : w.heap.size ≤ gb155)); have n9_ := As_.mk ((by rw [hg]; exact Nat.ne_of_lt (blk_lt (g := gb141) (o := .cells #[.int .i64 0, .slice none 0 0, .int .i64 0] 56 (0, 0)) (by (with_reducible repeat (first | refine kN_ ?_ _ | refine kd_ ?_ | refine ka_ ?_ _)); exact BK141.out)) : gb141 ≠ gb155)); have n10_ := As_.mk ((by rw [hg]; exact Nat.ne_of_gt (blk_lt (g := gb141) (o := .cells #[.int .i64 0, .slice none 0 0, .int .i64 0] 56 (0, 0)) (by (with_reducible repeat (first | refine kN_ ?_ _ | refine kd_ ?_ | refine ka_ ?_ _)); exact BK141.out)) : gb155 ≠ gb141)); have n11_ := As_.mk ((by rw [hg]; exact Nat.ne_of_lt (blk_lt (g := gb147) (o := .cells #[.int .i64 t142, .slice Ao22 t143.length co22] 54 (0, 0)) (by (with_reducible repeat (first | refine kN_ ?_ _ | refine kd_ ?_ | refine ka_ ?_ _)); exact BK147.out)) : gb147 ≠ gb155)); have n12_ := As_.mk ((by rw [hg]; exact Nat.ne_of_gt (blk_lt (g := gb147) (o := .cells #[.int .i64 t142, .slice Ao22 t143.length co22] 54 (0, 0)) (by (with_reducible repeat (first | refine kN_ ?_ _ | refine kd_ ?_ | refine ka_ ?_ _)); exact BK147.out)) : gb155 ≠ gb147)); have n13_ := As_.mk ((by rw [hg]; exact Nat.ne_of_lt (blk_lt (g := gb153) (o := .cells #[.int .i64 t148, .slice Ao28 t149.length co28] 54 (0, 0)) (by (with_reducible repeat (first | refine kN_ ?_ _ | refine kd_ ?_ | refine ka_ ?_ _)); exact BK153.out)) : gb153 ≠ gb155)); have n14_ := As_.mk ((by rw [hg]; exact Nat.ne_of_gt (blk_lt (g := gb153) (o := .cells #[.int .i64 t148, .slice Ao28 t149.length co28] 54 (0, 0)) (by (with_reducible repeat (first | refine kN_ ?_ _ | refine kd_ ?_ | refine ka_ ?_ _)); exact BK153.out)) : gb155 ≠ gb153)); clear HO_148001; clear HO_154001; clear BK141; clear BK147; clear BK153; clear HB; have HO_148001 := n0_; have HO_154001 := n1_; have BK141 := n2_; have BK147 := n3_; have BK153 := n4_; have HB := n5_; have BK155 := n6_; have GW155 := n7_; have GE155 := n8_; have NB141_155 := n9_; have NB155_141 := n10_; have NB147_155 := n11_; have NB155_147 := n12_; have NB153_155 := n13_; have NB155_153 := n14_; clear n0_ n1_ n2_ n3_ n4_ n5_ n6_ n7_ n8_ n9_ n10_ n11_ n12_ n13_ n14_; clear hb hbox hg; have hnb74 := NB155_141.out; have hnc74 := NB141_155.out; have hnb75 := NB155_147.out; have hnc75 := NB147_155.out; have hnb76 := NB155_153.out; have hnc76 := NB153_155.out; have hcz77_0 : w73.cell? ⟨gb155, 0, none⟩ = some (.int .i64 0) := (kc_ BK155.out 0).trans rfl; have hcz77_1 : w73.cell? ⟨gb155, 1, none⟩ = some (.slice none 0 0) := (kc_ BK155.out 1).trans rfl; have hcz77_2 : w73.cell? ⟨gb155, 2, none⟩ = some (.int .i64 0) := (kc_ BK155.out 2).trans rfl; have hfz77_0 := kf_ BK155.out 0; have hfz77_1 := kf_ BK155.out 1; have hfz77_2 := kf_ BK155.out 2; have hnb78 := NB153_141.out; have hnc78 := NB141_153.out; have hcz79_0 : w73.cell? ⟨gb153, 0, none⟩ = some (.int .i64 t148) := (kc_ BK153.out 0).trans rfl; have hcz79_1 : w73.cell? ⟨gb153, 1, none⟩ = some (.slice Ao28 t149.length co28) := (kc_ BK153.out 1).trans rfl; have hfz79_0 := kf_ BK153.out 0; have hfz79_1 := kf_ BK153.out 1))
            have n0_ : As_ (Kd.R (Kd.int .i64) 2 (((w73.setCell ⟨gb155, 0, none⟩ (.int .i64 t142)).setCell ⟨gb155, 1, none⟩ (.slice Ao22 t143.length co22)).setCell ⟨gb155, 2, none⟩ (.int .i64 0)) w.heap.size (fun k_ => some k_ ≠ (.slice Ao28 t149.length co28 : Value).ownBlock) (.slice Ao22 t143.length co22) t143) := ⟨by (with_reducible repeat (first | apply Kd.R_alloc | apply Kd.R_drewN | apply Kd.R_drew)); exact Kd.R_mono (Kd.R_far (p := ⟨gb155, 2, none⟩) (Kd.R_far (p := ⟨gb155, 1, none⟩) (Kd.R_far (p := ⟨gb155, 0, none⟩) (Kd.R_types HO_148001.out BK155.out (by decide)) (fun _ hk => hk.2) (.int .i64 t142)) (fun _ hk => hk.2) (.slice Ao22 t143.length co22)) (fun _ hk => hk.2) (.int .i64 0)) (fun _ hk => hk.1)⟩
            have n1_ : As_ (Kd.R (Kd.int .i64) 2 (((w73.setCell ⟨gb155, 0, none⟩ (.int .i64 t142)).setCell ⟨gb155, 1, none⟩ (.slice Ao22 t143.length co22)).setCell ⟨gb155, 2, none⟩ (.int .i64 0)) w.heap.size (fun k_ => some k_ ≠ (.slice Ao22 t143.length co22 : Value).ownBlock) (.slice Ao28 t149.length co28) t149) := ⟨by (with_reducible repeat (first | apply Kd.R_alloc | apply Kd.R_drewN | apply Kd.R_drew)); exact Kd.R_mono (Kd.R_far (p := ⟨gb155, 2, none⟩) (Kd.R_far (p := ⟨gb155, 1, none⟩) (Kd.R_far (p := ⟨gb155, 0, none⟩) (Kd.R_types HO_154001.out BK155.out (by decide)) (fun _ hk => hk.2) (.int .i64 t142)) (fun _ hk => hk.2) (.slice Ao22 t143.length co22)) (fun _ hk => hk.2) (.int .i64 0)) (fun _ hk => hk.1)⟩
            have n2_ : As_ ((((w73.setCell ⟨gb155, 0, none⟩ (.int .i64 t142)).setCell ⟨gb155, 1, none⟩ (.slice Ao22 t143.length co22)).setCell ⟨gb155, 2, none⟩ (.int .i64 0)).heap[gb141]? = some (.cells #[.int .i64 0, .slice none 0 0, .int .i64 0] 56 (0, 0))) := ⟨by (with_reducible repeat (first | refine kN_ ?_ _ | refine kd_ ?_ | refine ka_ ?_ _)); refine blk_far ?_ NB141_155.out _; (with_reducible repeat (first | refine kN_ ?_ _ | refine kd_ ?_ | refine ka_ ?_ _)); refine blk_far ?_ NB141_155.out _; (with_reducible repeat (first | refine kN_ ?_ _ | refine kd_ ?_ | refine ka_ ?_ _)); refine blk_far ?_ NB141_155.out _; (with_reducible repeat (first | refine kN_ ?_ _ | refine kd_ ?_ | refine ka_ ?_ _)); exact BK141.out⟩
            have n3_ : As_ ((((w73.setCell ⟨gb155, 0, none⟩ (.int .i64 t142)).setCell ⟨gb155, 1, none⟩ (.slice Ao22 t143.length co22)).setCell ⟨gb155, 2, none⟩ (.int .i64 0)).heap[gb147]? = some (.cells #[.int .i64 t142, .slice Ao22 t143.length co22] 54 (0, 0))) := ⟨by (with_reducible repeat (first | refine kN_ ?_ _ | refine kd_ ?_ | refine ka_ ?_ _)); refine blk_far ?_ NB147_155.out _; (with_reducible repeat (first | refine kN_ ?_ _ | refine kd_ ?_ | refine ka_ ?_ _)); refine blk_far ?_ NB147_155.out _; (with_reducible repeat (first | refine kN_ ?_ _ | refine kd_ ?_ | refine ka_ ?_ _)); refine blk_far ?_ NB147_155.out _; (with_reducible repeat (first | refine kN_ ?_ _ | refine kd_ ?_ | refine ka_ ?_ _)); exact BK147.out⟩
            have n4_ : As_ ((((w73.setCell ⟨gb155, 0, none⟩ (.int .i64 t142)).setCell ⟨gb155, 1, none⟩ (.slice Ao22 t143.length co22)).setCell ⟨gb155, 2, none⟩ (.int .i64 0)).heap[gb153]? = some (.cells #[.int .i64 t148, .slice Ao28 t149.length co28] 54 (0, 0))) := ⟨by (with_reducible repeat (first | refine kN_ ?_ _ | refine kd_ ?_ | refine ka_ ?_ _)); refine blk_far ?_ NB153_155.out _; (with_reducible repeat (first | refine kN_ ?_ _ | refine kd_ ?_ | refine ka_ ?_ _)); refine blk_far ?_ NB153_155.out _; (with_reducible repeat (first | refine kN_ ?_ _ | refine kd_ ?_ | refine ka_ ?_ _)); refine blk_far ?_ NB153_155.out _; (with_reducible repeat (first | refine kN_ ?_ _ | refine kd_ ?_ | refine ka_ ?_ _)); exact BK153.out⟩
            have n5_ : As_ ((((w73.setCell ⟨gb155, 0, none⟩ (.int .i64 t142)).setCell ⟨gb155, 1, none⟩ (.slice Ao22 t143.length co22)).setCell ⟨gb155, 2, none⟩ (.int .i64 0)).heap[gb155]? = some (.cells #[.int .i64 t142, .slice Ao22 t143.length co22, .int .i64 0] 56 (0, 0))) := ⟨by (with_reducible repeat (first | refine kN_ ?_ _ | refine kd_ ?_ | refine ka_ ?_ _)); refine blk_put (cs := #[.int .i64 t142, .slice Ao22 t143.length co22, .int .i64 0]) ?_ 2 _ rfl; (with_reducible repeat (first | refine kN_ ?_ _ | refine kd_ ?_ | refine ka_ ?_ _)); refine blk_put (cs := #[.int .i64 t142, .slice none 0 0, .int .i64 0]) ?_ 1 _ rfl; (with_reducible repeat (first | refine kN_ ?_ _ | refine kd_ ?_ | refine ka_ ?_ _)); refine blk_put (cs := #[.int .i64 0, .slice none 0 0, .int .i64 0]) ?_ 0 _ rfl; (with_reducible repeat (first | refine kN_ ?_ _ | refine kd_ ?_ | refine ka_ ?_ _)); exact BK155.out⟩
            have n6_ : As_ (Below w.heap.size w (((w73.setCell ⟨gb155, 0, none⟩ (.int .i64 t142)).setCell ⟨gb155, 1, none⟩ (.slice Ao22 t143.length co22)).setCell ⟨gb155, 2, none⟩ (.int .i64 0))) := ⟨by repeat (first | (with_reducible first | exact HB.out | apply ba_ | apply pN_ | apply bd_ | refine bs_ ?_ GE141.out | refine bs_ ?_ GE147.out | refine bs_ ?_ GE153.out | refine bs_ ?_ GE155.out) | exact HB.out)⟩
            (try clear HO_148001)
            (try clear HO_154001)
            (try clear BK141)
            (try clear BK147)
            (try clear BK153)
            (try clear BK155)
            (try clear HB)
            generalize (((w73.setCell ⟨gb155, 0, none⟩ (.int .i64 t142)).setCell ⟨gb155, 1, none⟩ (.slice Ao22 t143.length co22)).setCell ⟨gb155, 2, none⟩ (.int .i64 0)) = w80 at n0_ n1_ n2_ n3_ n4_ n5_ n6_ ⊢
            have HO_148001 := n0_
            have HO_154001 := n1_
            have BK141 := n2_
            have BK147 := n3_
            have BK153 := n4_
            have BK155 := n5_
            have HB := n6_
            clear n0_ n1_ n2_ n3_ n4_ n5_ n6_
            have n0_ := As_.mk (Kd.R_drew HO_148001.out)
            have n1_ := As_.mk (Kd.R_drew HO_154001.out)
            have n2_ := As_.mk (kd_ BK141.out)
            have n3_ := As_.mk (kd_ BK147.out)
            have n4_ := As_.mk (kd_ BK153.out)
            have n5_ := As_.mk (kd_ BK155.out)
            have n6_ := As_.mk (bd_ HB.out)
            clear HO_148001
            clear HO_154001
            clear BK141
            clear BK147
            clear BK153
            clear BK155
            clear HB
            have HO_148001 := n0_
            have HO_154001 := n1_
            have BK141 := n2_
            have BK147 := n3_
            have BK153 := n4_
            have BK155 := n5_
            have HB := n6_
            clear n0_ n1_ n2_ n3_ n4_ n5_ n6_
            refine start_ (n := 5) (S := fun w' => w'.cell? ⟨gb155, 0, none⟩ = some (.int .i64 t142) ∧ w'.cell? ⟨gb155, 1, none⟩ = some (.slice Ao22 t143.length co22) ∧ w'.cell? ⟨gb155, 2, none⟩ = some (.int .i64 0)) (ds := []) #[false, false, false, false, false] (by kernel_rfl) rfl rfl ⟨(kc_ BK155.out 0).trans rfl, (kc_ BK155.out 1).trans rfl, (kc_ BK155.out 2).trans rfl⟩ (fun hHeld => ?_)
            generalize w80.drew = w81 at HO_148001 HO_154001 BK141 BK147 BK153 BK155 HB hHeld ⊢
            refine take_ (i := 0) (N := some 74) (v := ?_) (a' := ?_) #[true, false, false, false, false] rfl rfl (by kernel_rfl) (fun _ _ _ h => h) (Or.inl ⟨by rfl, ?_⟩) hHeld ?_ ?_
            rotate_left
            ·rintro w' ⟨s0, s1, s2⟩
             go_simp
             with_reducible rfl
            rotate_left
            ·simp only [Act.put, List.setIfInBounds_toArray, List.set_cons_zero, List.set_cons_succ, i64_w, i32_w]
             rfl
            refine take_ (i := 1) (N := some 75) (v := ?_) (a' := ?_) #[true, true, false, false, false] rfl rfl (by kernel_rfl) (fun _ _ _ h => h) (Or.inl ⟨by rfl, ?_⟩) hHeld ?_ ?_
            rotate_left
            ·rintro w' ⟨s0, s1, s2⟩
             go_simp
             with_reducible rfl
            rotate_left
            ·simp only [Act.put, List.setIfInBounds_toArray, List.set_cons_zero, List.set_cons_succ, i64_w, i32_w]
             rfl
            refine one_ (i := 2) (N := some 76) #[true, true, true, false, false] rfl rfl (by kernel_rfl) (by decide) (fun K hK => ?_)
            refine goes_ Tryz.func117 (by kernel_rfl) rfl #[.agg #[.int .i64 t142, .slice Ao22 t143.length co22, .int .i64 0]] (by rfl) rfl rfl (by (try simp only [List.map_toArray, List.map_cons, List.map_nil]); first | done | rfl | (simp only [List.length_drop, List.length_take]; rfl)) ?_
            with_reducible refine (spec_l03Is.calls kj16 t142 _ _ t143 0 t158 _ ?side1 ?side2 A69.out).mono ?_
            (case side1 => repeat (first | exact (Kd.R_reads' HO_148001.out).2.2 | (with_reducible refine Kd.C_alloc ?_ _) | (with_reducible refine Kd.C_drewN ?_ _) | (with_reducible refine Kd.C_drew ?_)))
            (case side2 => exact (Kd.R_reads' HO_148001.out).2.1)
            rintro e w82 ⟨rfl, hb⟩
            refine ⟨_, rfl, ?_⟩
            have n0_ := As_.mk (Kd.R_below (by (with_reducible repeat (first | apply Kd.R_alloc | apply Kd.R_drewN | apply Kd.R_drew)); exact HO_148001.out) hb)
            have n1_ := As_.mk (Kd.R_below (by (with_reducible repeat (first | apply Kd.R_alloc | apply Kd.R_drewN | apply Kd.R_drew)); exact HO_154001.out) hb)
            have n2_ := As_.mk (kb_ (g := gb141) (o := .cells #[.int .i64 0, .slice none 0 0, .int .i64 0] 56 (0, 0)) (by (with_reducible repeat (first | refine kN_ ?_ _ | refine kd_ ?_ | refine ka_ ?_ _)); exact BK141.out) hb)
            have n3_ := As_.mk (kb_ (g := gb147) (o := .cells #[.int .i64 t142, .slice Ao22 t143.length co22] 54 (0, 0)) (by (with_reducible repeat (first | refine kN_ ?_ _ | refine kd_ ?_ | refine ka_ ?_ _)); exact BK147.out) hb)
            have n4_ := As_.mk (kb_ (g := gb153) (o := .cells #[.int .i64 t148, .slice Ao28 t149.length co28] 54 (0, 0)) (by (with_reducible repeat (first | refine kN_ ?_ _ | refine kd_ ?_ | refine ka_ ?_ _)); exact BK153.out) hb)
            have n5_ := As_.mk (kb_ (g := gb155) (o := .cells #[.int .i64 t142, .slice Ao22 t143.length co22, .int .i64 0] 56 (0, 0)) (by (with_reducible repeat (first | refine kN_ ?_ _ | refine kd_ ?_ | refine ka_ ?_ _)); exact BK155.out) hb)
            have n6_ := As_.mk (bp_ (by repeat (first | (with_reducible first | exact HB.out | apply ba_ | apply pN_ | apply bd_ | refine bs_ ?_ GE141.out | refine bs_ ?_ GE147.out | refine bs_ ?_ GE153.out | refine bs_ ?_ GE155.out) | exact HB.out)) hb)
            clear HO_148001
            clear HO_154001
            clear BK141
            clear BK147
            clear BK153
            clear BK155
            clear HB
            have HO_148001 := n0_
            have HO_154001 := n1_
            have BK141 := n2_
            have BK147 := n3_
            have BK153 := n4_
            have BK155 := n5_
            have HB := n6_
            clear n0_ n1_ n2_ n3_ n4_ n5_ n6_
            (try clear hb)
            (try clear hb2)
            (try clear hk)
            (try clear hi)
            refine hK.out _ _ ⟨(kc_ BK155.out 0).trans rfl, (kc_ BK155.out 1).trans rfl, (kc_ BK155.out 2).trans rfl⟩ (fun hHeld => ?_)
            clear hK K
            refine norm_ (a' := ?_) ?_ ?_
            rotate_left
            ·show Act.put _ (some 76) _ = _
             simp only [Act.put, List.setIfInBounds_toArray, List.set_cons_zero, List.set_cons_succ, i64_w, i32_w]
             rfl
            refine one_ (i := 3) (N := none) #[true, true, true, true, false] rfl rfl (by kernel_rfl) (by decide) (fun K hK => ?_)
            have hs83 : w82.cell? ⟨gb141, 0, none⟩ = some (.int .i64 0) := (kc_ BK141.out 0).trans rfl
            have hfs83 := kf_ BK141.out 0
            have hns83_1 := NB147_141.out
            have hns83_2 := NB153_141.out
            have hns83_3 := NB155_141.out
            have hms83_1 := NB141_147.out
            have hms83_2 := NB141_153.out
            have hms83_3 := NB141_155.out
            have hs84 : w82.cell? ⟨gb141, 1, none⟩ = some (.slice none 0 0) := (kc_ BK141.out 1).trans rfl
            have hfs84 := kf_ BK141.out 1
            have hns84_1 := NB147_141.out
            have hns84_2 := NB153_141.out
            have hns84_3 := NB155_141.out
            have hms84_1 := NB141_147.out
            have hms84_2 := NB141_153.out
            have hms84_3 := NB141_155.out
            have hs85 : w82.cell? ⟨gb141, 2, none⟩ = some (.int .i64 0) := (kc_ BK141.out 2).trans rfl
            have hfs85 := kf_ BK141.out 2
            have hns85_1 := NB147_141.out
            have hns85_2 := NB153_141.out
            have hns85_3 := NB155_141.out
            have hms85_1 := NB141_147.out
            have hms85_2 := NB141_153.out
            have hms85_3 := NB141_155.out
            refine skip_ (w1 := ?_) (by rfl) rfl ?_ ?_
            rotate_left
            ·go_simp
             rfl
            refine hK.out _ _ ⟨((cell_far (p := ⟨gb141, _, none⟩) NB155_141.out _).trans (((cell_far (p := ⟨gb141, _, none⟩) NB155_141.out _).trans (((cell_far (p := ⟨gb141, _, none⟩) NB155_141.out _).trans (hHeld.1)))))), ((cell_far (p := ⟨gb141, _, none⟩) NB155_141.out _).trans (((cell_far (p := ⟨gb141, _, none⟩) NB155_141.out _).trans (((cell_far (p := ⟨gb141, _, none⟩) NB155_141.out _).trans (hHeld.2.1)))))), ((cell_far (p := ⟨gb141, _, none⟩) NB155_141.out _).trans (((cell_far (p := ⟨gb141, _, none⟩) NB155_141.out _).trans (((cell_far (p := ⟨gb141, _, none⟩) NB155_141.out _).trans (hHeld.2.2))))))⟩ (fun hHeld => ?_)
            clear hK K
            refine pure_ (i := 4) (N := some 3) (v := ?_) (a' := ?_) #[true, true, true, true, true] rfl rfl (by kernel_rfl) (fun _ _ _ h => h) (Or.inl ⟨by rfl, ?_⟩) ?_ ?_
            rotate_left
            ·intro w'
             go_simp
             with_reducible rfl
            rotate_left
            ·simp only [Act.put, List.setIfInBounds_toArray, List.set_cons_zero, List.set_cons_succ, i64_w, i32_w]
             rfl
            refine done_ (by kernel_rfl) ?_
            try go_wp2
            refine bodyPost_ret (results_ct rfl _ _ gb141 56 #[.int .i64 t142, .slice Ao22 t143.length co22, .int .i64 0] (0, 0) _ rfl (by (with_reducible repeat (first | refine kN_ ?_ _ | refine kd_ ?_ | refine ka_ ?_ _)); refine blk_put (cs := #[.int .i64 t142, .slice Ao22 t143.length co22, .int .i64 0]) ?_ 2 _ rfl; (with_reducible repeat (first | refine kN_ ?_ _ | refine kd_ ?_ | refine ka_ ?_ _)); refine blk_put (cs := #[.int .i64 t142, .slice none 0 0, .int .i64 0]) ?_ 1 _ rfl; (with_reducible repeat (first | refine kN_ ?_ _ | refine kd_ ?_ | refine ka_ ?_ _)); refine blk_put (cs := #[.int .i64 0, .slice none 0 0, .int .i64 0]) ?_ 0 _ rfl; (with_reducible repeat (first | refine kN_ ?_ _ | refine kd_ ?_ | refine ka_ ?_ _)); exact BK141.out) Tryz.underlying56 rfl (by kernel_rfl)) rfl ?_
            exact ⟨_, by first | rfl | (simp [eN_, eS_] <;> rfl) | (simp only [← hji13]; first | rfl | (simp [eN_, eS_] <;> rfl)) | (simp [*, eN_, eS_] <;> rfl), by (with_reducible repeat (first | apply Kd.R_alloc | apply Kd.R_drewN | apply Kd.R_drew)); exact Kd.R_mono (Kd.R_far (p := ⟨gb141, 2, none⟩) (Kd.R_far (p := ⟨gb141, 1, none⟩) (Kd.R_far (p := ⟨gb141, 0, none⟩) (Kd.R_types HO_148001.out BK141.out (by decide)) (fun _ hk => hk.2) (.int .i64 t142)) (fun _ hk => hk.2) (.slice Ao22 t143.length co22)) (fun _ hk => hk.2) (.int .i64 0)) (fun _ hk => trivial), by repeat (first | (with_reducible first | exact HB.out | apply ba_ | apply pN_ | apply bd_ | refine bs_ ?_ GE141.out | refine bs_ ?_ GE147.out | refine bs_ ?_ GE153.out | refine bs_ ?_ GE155.out) | exact HB.out)⟩
       ·rw [if_neg c15] at H
        exact absurd H (by simp)
      ·rw [if_neg c14] at H
       exact absurd H (by simp)
     ·rw [if_neg c11] at H
      exact absurd H (by simp)
    ·rw [if_neg c10] at H
     exact absurd H (by simp)
end Go.Proofs.YtlogcnglmdpejaaGreatDoor.Pq
end
