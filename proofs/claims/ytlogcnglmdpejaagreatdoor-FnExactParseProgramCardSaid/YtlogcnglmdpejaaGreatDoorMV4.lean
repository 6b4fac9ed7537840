/- Part 4 of the proof of the card of FnExactV: walks of the functions and plain facts on them. -/
import Derived.Test.YtlogcnglmdpejaaGreatDoorMV3
import Derived.Test.YtlogcnglmdpejaaGreatDoorMV0
section
namespace Go.Proofs.YtlogcnglmdpejaaGreatDoor.Pq
open Go.RowKit Go.Proofs.YtlogcnglmdpejaaGreatDoorW.PrintWords Go.Proofs.YtlogcnglmdpejaaGreatDoorW.PrintLast Go.Proofs.YtlogcnglmdpejaaGreatDoorW.PrintMore
attribute [local go_sem] max2_int min2_int max_two min_two max_three min_three max_four min_four
set_option linter.unusedVariables false
set_option linter.unusedSimpArgs false
def cmp_isNaN_int.f (a0 : Int) : Option (Bool) := some (a0 != a0)
set_option maxHeartbeats 8000000 in
set_option maxRecDepth 100000 in
theorem cmp_isNaN_int.calls (a0 : Int) (r : Bool) (w : World) (h : cmp_isNaN_int.f a0 = some r) :
  Calls Tryz.prog 296 #[.int .i64 a0] w fun e w' => e = .returned (.bool r) ∧ Drawn0 w w' := by
 have H : (some (a0 != a0)) = some r := h
 clear h
 obtain rfl := Option.some.inj H
 go_enter Tryz.func296, Tryz.ntmps296
 go_wp2
 go_ret
 exact ⟨by first | rfl | (simp; done) | (simp [*]; done), by repeat (first | exact Drawn0.refl _ | apply Drawn0.step)⟩
def cmp_isNaN_uint32.f (a0 : Int) : Option (Bool) := some (a0 != a0)
set_option maxHeartbeats 8000000 in
set_option maxRecDepth 100000 in
theorem cmp_isNaN_uint32.calls (a0 : Int) (r : Bool) (w : World) (h : cmp_isNaN_uint32.f a0 = some r) :
  Calls Tryz.prog 297 #[.int .u32 a0] w fun e w' => e = .returned (.bool r) ∧ Drawn0 w w' := by
 have H : (some (a0 != a0)) = some r := h
 clear h
 obtain rfl := Option.some.inj H
 go_enter Tryz.func297, Tryz.ntmps297
 go_wp2
 go_ret
 exact ⟨by first | rfl | (simp; done) | (simp [*]; done), by repeat (first | exact Drawn0.refl _ | apply Drawn0.step)⟩
def cmp_Compare_int.f (a0 : Int) (a1 : Int) : Option (Int) := (cmp_isNaN_int.f a0).bind fun t440 => ((cmp_isNaN_int.f a1).bind fun t441 => (if t440 = true then (if t441 = true then (some 0) else (some (-1))) else (if t441 = true then (some 1) else (if a0 < a1 then (some (-1)) else (if a0 > a1 then (some 1) else (some 0))))))
set_option maxHeartbeats 8000000 in
set_option maxRecDepth 100000 in
theorem cmp_Compare_int.calls (a0 : Int) (a1 : Int) (r : Int) (w : World) (h : cmp_Compare_int.f a0 a1 = some r) :
  Calls Tryz.prog 283 #[.int .i64 a0, .int .i64 a1] w fun e w' => e = .returned (.int .i64 r) ∧ Drawn0 w w' := by
 have H : ((cmp_isNaN_int.f a0).bind fun t440 => ((cmp_isNaN_int.f a1).bind fun t441 => (if t440 = true then (if t441 = true then (some 0) else (some (-1))) else (if t441 = true then (some 1) else (if a0 < a1 then (some (-1)) else (if a0 > a1 then (some 1) else (some 0))))))) = some r := h
 clear h
 replace H := Option.bind_eq_some_iff.mp H
 obtain ⟨t440, A30, H⟩ := H
 replace H : ((cmp_isNaN_int.f a1).bind fun t441 => (if t440 = true then (if t441 = true then (some 0) else (some (-1))) else (if t441 = true then (some 1) else (if a0 < a1 then (some (-1)) else (if a0 > a1 then (some 1) else (some 0)))))) = some r := H
 have A3 := As_.mk A30
 clear A30
 replace H := Option.bind_eq_some_iff.mp H
 obtain ⟨t441, A40, H⟩ := H
 replace H : (if t440 = true then (if t441 = true then (some 0) else (some (-1))) else (if t441 = true then (some 1) else (if a0 < a1 then (some (-1)) else (if a0 > a1 then (some 1) else (some 0))))) = some r := H
 have A4 := As_.mk A40
 clear A40
 by_cases c5 : t440 = true
 ·subst c5
  have H1 : (if t441 = true then (some 0) else (some (-1))) = some r := by rw [if_pos rfl] at H; exact H
  clear H
  have H := H1
  clear H1
  by_cases c6 : t441 = true
  ·subst c6
   have H1 : (some 0) = some r := by rw [if_pos rfl] at H; exact H
   clear H
   have H := H1
   clear H1
   obtain rfl := Option.some.inj H
   go_enter Tryz.func283, Tryz.ntmps283
   go_wp2_with (first | ((with_reducible refine gate_callee (f := 296) rfl ?_); refine goesL_ (some 8) rfl rfl Tryz.func296 (by kernel_rfl) rfl #[.int .i64 a0] rfl (by (try simp only [List.map_toArray, List.map_cons, List.map_nil]); first | done | rfl | (simp only [List.length_drop, List.length_take]; rfl)) ?_; (with_reducible refine (cmp_isNaN_int.calls a0 true _ A3.out).mono ?_); rintro e w' ⟨rfl, ⟨nd, rfl⟩⟩; refine ⟨_, rfl, ?_⟩) | ((with_reducible refine gate_callee (f := 296) rfl ?_); refine goesL_ (some 10) rfl rfl Tryz.func296 (by kernel_rfl) rfl #[.int .i64 a1] rfl (by (try simp only [List.map_toArray, List.map_cons, List.map_nil]); first | done | rfl | (simp only [List.length_drop, List.length_take]; rfl)) ?_; (with_reducible refine (cmp_isNaN_int.calls a1 true _ A4.out).mono ?_); rintro e w' ⟨rfl, ⟨nd, rfl⟩⟩; refine ⟨_, rfl, ?_⟩))
   go_ret
   exact ⟨by first | rfl | (simp; done) | (simp [*]; done), by repeat (first | exact Drawn0.refl _ | apply Drawn0.step)⟩
  ·replace c6 := Bool.eq_false_iff.mpr c6
   subst c6
   have H1 : (some (-1)) = some r := by rw [if_neg (show ¬ (false = true) by decide)] at H; exact H
   clear H
   have H := H1
   clear H1
   obtain rfl := Option.some.inj H
   go_enter Tryz.func283, Tryz.ntmps283
   go_wp2_with (first | ((with_reducible refine gate_callee (f := 296) rfl ?_); refine goesL_ (some 8) rfl rfl Tryz.func296 (by kernel_rfl) rfl #[.int .i64 a0] rfl (by (try simp only [List.map_toArray, List.map_cons, List.map_nil]); first | done | rfl | (simp only [List.length_drop, List.length_take]; rfl)) ?_; (with_reducible refine (cmp_isNaN_int.calls a0 true _ A3.out).mono ?_); rintro e w' ⟨rfl, ⟨nd, rfl⟩⟩; refine ⟨_, rfl, ?_⟩) | ((with_reducible refine gate_callee (f := 296) rfl ?_); refine goesL_ (some 10) rfl rfl Tryz.func296 (by kernel_rfl) rfl #[.int .i64 a1] rfl (by (try simp only [List.map_toArray, List.map_cons, List.map_nil]); first | done | rfl | (simp only [List.length_drop, List.length_take]; rfl)) ?_; (with_reducible refine (cmp_isNaN_int.calls a1 false _ A4.out).mono ?_); rintro e w' ⟨rfl, ⟨nd, rfl⟩⟩; refine ⟨_, rfl, ?_⟩))
   go_ret
   exact ⟨by first | rfl | (simp; done) | (simp [*]; done), by repeat (first | exact Drawn0.refl _ | apply Drawn0.step)⟩
 ·replace c5 := Bool.eq_false_iff.mpr c5
  subst c5
  have H1 : (if t441 = true then (some 1) else (if a0 < a1 then (some (-1)) else (if a0 > a1 then (some 1) else (some 0)))) = some r := by rw [if_neg (show ¬ (false = true) by decide)] at H; exact H
  clear H
  have H := H1
  clear H1
  by_cases c7 : t441 = true
  ·subst c7
   have H1 : (some 1) = some r := by rw [if_pos rfl] at H; exact H
   clear H
   have H := H1
   clear H1
   obtain rfl := Option.some.inj H
   go_enter Tryz.func283, Tryz.ntmps283
   go_wp2_with (first | ((with_reducible refine gate_callee (f := 296) rfl ?_); refine goesL_ (some 8) rfl rfl Tryz.func296 (by kernel_rfl) rfl #[.int .i64 a0] rfl (by (try simp only [List.map_toArray, List.map_cons, List.map_nil]); first | done | rfl | (simp only [List.length_drop, List.length_take]; rfl)) ?_; (with_reducible refine (cmp_isNaN_int.calls a0 false _ A3.out).mono ?_); rintro e w' ⟨rfl, ⟨nd, rfl⟩⟩; refine ⟨_, rfl, ?_⟩) | ((with_reducible refine gate_callee (f := 296) rfl ?_); refine goesL_ (some 10) rfl rfl Tryz.func296 (by kernel_rfl) rfl #[.int .i64 a1] rfl (by (try simp only [List.map_toArray, List.map_cons, List.map_nil]); first | done | rfl | (simp only [List.length_drop, List.length_take]; rfl)) ?_; (with_reducible refine (cmp_isNaN_int.calls a1 true _ A4.out).mono ?_); rintro e w' ⟨rfl, ⟨nd, rfl⟩⟩; refine ⟨_, rfl, ?_⟩))
   go_ret
   exact ⟨by first | rfl | (simp; done) | (simp [*]; done), by repeat (first | exact Drawn0.refl _ | apply Drawn0.step)⟩
  ·replace c7 := Bool.eq_false_iff.mpr c7
   subst c7
   have H1 : (if a0 < a1 then (some (-1)) else (if a0 > a1 then (some 1) else (some 0))) = some r := by rw [if_neg (show ¬ (false = true) by decide)] at H; exact H
   clear H
   have H := H1
   clear H1
   by_cases c8 : a0 < a1
   ·rw [if_pos c8] at H
    have c8b0 : decide (a0 < a1) = true := decide_eq_true c8
    clear c8
    obtain rfl := Option.some.inj H
    go_enter Tryz.func283, Tryz.ntmps283
    go_wp2_with (first | ((with_reducible refine gate_callee (f := 296) rfl ?_); refine goesL_ (some 8) rfl rfl Tryz.func296 (by kernel_rfl) rfl #[.int .i64 a0] rfl (by (try simp only [List.map_toArray, List.map_cons, List.map_nil]); first | done | rfl | (simp only [List.length_drop, List.length_take]; rfl)) ?_; (with_reducible refine (cmp_isNaN_int.calls a0 false _ A3.out).mono ?_); rintro e w' ⟨rfl, ⟨nd, rfl⟩⟩; refine ⟨_, rfl, ?_⟩) | ((with_reducible refine gate_callee (f := 296) rfl ?_); refine goesL_ (some 10) rfl rfl Tryz.func296 (by kernel_rfl) rfl #[.int .i64 a1] rfl (by (try simp only [List.map_toArray, List.map_cons, List.map_nil]); first | done | rfl | (simp only [List.length_drop, List.length_take]; rfl)) ?_; (with_reducible refine (cmp_isNaN_int.calls a1 false _ A4.out).mono ?_); rintro e w' ⟨rfl, ⟨nd, rfl⟩⟩; refine ⟨_, rfl, ?_⟩))
    go_ret
    exact ⟨by first | rfl | (simp; done) | (simp [*]; done), by repeat (first | exact Drawn0.refl _ | apply Drawn0.step)⟩
   ·rw [if_neg c8] at H
    have c8b0 : decide (a0 < a1) = false := decide_eq_false c8
    clear c8
    by_cases c9 : a0 > a1
    ·rw [if_pos c9] at H
     have c9b0 : decide (a1 < a0) = true := decide_eq_true c9
     clear c9
     obtain rfl := Option.some.inj H
     go_enter Tryz.func283, Tryz.ntmps283
     go_wp2_with (first | ((with_reducible refine gate_callee (f := 296) rfl ?_); refine goesL_ (some 8) rfl rfl Tryz.func296 (by kernel_rfl) rfl #[.int .i64 a0] rfl (by (try simp only [List.map_toArray, List.map_cons, List.map_nil]); first | done | rfl | (simp only [List.length_drop, List.length_take]; rfl)) ?_; (with_reducible refine (cmp_isNaN_int.calls a0 false _ A3.out).mono ?_); rintro e w' ⟨rfl, ⟨nd, rfl⟩⟩; refine ⟨_, rfl, ?_⟩) | ((with_reducible refine gate_callee (f := 296) rfl ?_); refine goesL_ (some 10) rfl rfl Tryz.func296 (by kernel_rfl) rfl #[.int .i64 a1] rfl (by (try simp only [List.map_toArray, List.map_cons, List.map_nil]); first | done | rfl | (simp only [List.length_drop, List.length_take]; rfl)) ?_; (with_reducible refine (cmp_isNaN_int.calls a1 false _ A4.out).mono ?_); rintro e w' ⟨rfl, ⟨nd, rfl⟩⟩; refine ⟨_, rfl, ?_⟩))
     go_ret
     exact ⟨by first | rfl | (simp; done) | (simp [*]; done), by repeat (first | exact Drawn0.refl _ | apply Drawn0.step)⟩
    ·rw [if_neg c9] at H
     have c9b0 : decide (a1 < a0) = false := decide_eq_false c9
     clear c9
     obtain rfl := Option.some.inj H
     go_enter Tryz.func283, Tryz.ntmps283
     go_wp2_with (first | ((with_reducible refine gate_callee (f := 296) rfl ?_); refine goesL_ (some 8) rfl rfl Tryz.func296 (by kernel_rfl) rfl #[.int .i64 a0] rfl (by (try simp only [List.map_toArray, List.map_cons, List.map_nil]); first | done | rfl | (simp only [List.length_drop, List.length_take]; rfl)) ?_; (with_reducible refine (cmp_isNaN_int.calls a0 false _ A3.out).mono ?_); rintro e w' ⟨rfl, ⟨nd, rfl⟩⟩; refine ⟨_, rfl, ?_⟩) | ((with_reducible refine gate_callee (f := 296) rfl ?_); refine goesL_ (some 10) rfl rfl Tryz.func296 (by kernel_rfl) rfl #[.int .i64 a1] rfl (by (try simp only [List.map_toArray, List.map_cons, List.map_nil]); first | done | rfl | (simp only [List.length_drop, List.length_take]; rfl)) ?_; (with_reducible refine (cmp_isNaN_int.calls a1 false _ A4.out).mono ?_); rintro e w' ⟨rfl, ⟨nd, rfl⟩⟩; refine ⟨_, rfl, ?_⟩))
     go_ret
     exact ⟨by first | rfl | (simp; done) | (simp [*]; done), by repeat (first | exact Drawn0.refl _ | apply Drawn0.step)⟩
def cmp_Compare_uint32.f (a0 : Int) (a1 : Int) : Option (Int) := (cmp_isNaN_uint32.f a0).bind fun t442 => ((cmp_isNaN_uint32.f a1).bind fun t443 => (if t442 = true then (if t443 = true then (some 0) else (some (-1))) else (if t443 = true then (some 1) else (if a0 < a1 then (some (-1)) else (if a0 > a1 then (some 1) else (some 0))))))
set_option maxHeartbeats 8000000 in
set_option maxRecDepth 100000 in
theorem cmp_Compare_uint32.calls (a0 : Int) (a1 : Int) (r : Int) (w : World) (h : cmp_Compare_uint32.f a0 a1 = some r) :
  Calls Tryz.prog 284 #[.int .u32 a0, .int .u32 a1] w fun e w' => e = .returned (.int .i64 r) ∧ Drawn0 w w' := by
 have H : ((cmp_isNaN_uint32.f a0).bind fun t442 => ((cmp_isNaN_uint32.f a1).bind fun t443 => (if t442 = true then (if t443 = true then (some 0) else (some (-1))) else (if t443 = true then (some 1) else (if a0 < a1 then (some (-1)) else (if a0 > a1 then (some 1) else (some 0))))))) = some r := h
 clear h
 replace H := Option.bind_eq_some_iff.mp H
 obtain ⟨t442, A30, H⟩ := H
 replace H : ((cmp_isNaN_uint32.f a1).bind fun t443 => (if t442 = true then (if t443 = true then (some 0) else (some (-1))) else (if t443 = true then (some 1) else (if a0 < a1 then (some (-1)) else (if a0 > a1 then (some 1) else (some 0)))))) = some r := H
 have A3 := As_.mk A30
 clear A30
 replace H := Option.bind_eq_some_iff.mp H
 obtain ⟨t443, A40, H⟩ := H
 replace H : (if t442 = true then (if t443 = true then (some 0) else (some (-1))) else (if t443 = true then (some 1) else (if a0 < a1 then (some (-1)) else (if a0 > a1 then (some 1) else (some 0))))) = some r := H
 have A4 := As_.mk A40
 clear A40
 by_cases c5 : t442 = true
 ·subst c5
  have H1 : (if t443 = true then (some 0) else (some (-1))) = some r := by rw [if_pos rfl] at H; exact H
  clear H
  have H := H1
  clear H1
  by_cases c6 : t443 = true
  ·subst c6
   have H1 : (some 0) = some r := by rw [if_pos rfl] at H; exact H
   clear H
   have H := H1
   clear H1
   obtain rfl := Option.some.inj H
   go_enter Tryz.func284, Tryz.ntmps284
   go_wp2_with (first | ((with_reducible refine gate_callee (f := 297) rfl ?_); refine goesL_ (some 8) rfl rfl Tryz.func297 (by kernel_rfl) rfl #[.int .u32 a0] rfl (by (try simp only [List.map_toArray, List.map_cons, List.map_nil]); first | done | rfl | (simp only [List.length_drop, List.length_take]; rfl)) ?_; (with_reducible refine (cmp_isNaN_uint32.calls a0 true _ A3.out).mono ?_); rintro e w' ⟨rfl, ⟨nd, rfl⟩⟩; refine ⟨_, rfl, ?_⟩) | ((with_reducible refine gate_callee (f := 297) rfl ?_); refine goesL_ (some 10) rfl rfl Tryz.func297 (by kernel_rfl) rfl #[.int .u32 a1] rfl (by (try simp only [List.map_toArray, List.map_cons, List.map_nil]); first | done | rfl | (simp only [List.length_drop, List.length_take]; rfl)) ?_; (with_reducible refine (cmp_isNaN_uint32.calls a1 true _ A4.out).mono ?_); rintro e w' ⟨rfl, ⟨nd, rfl⟩⟩; refine ⟨_, rfl, ?_⟩))
   go_ret
   exact ⟨by first | rfl | (simp; done) | (simp [*]; done), by repeat (first | exact Drawn0.refl _ | apply Drawn0.step)⟩
  ·replace c6 := Bool.eq_false_iff.mpr c6
   subst c6
   have H1 : (some (-1)) = some r := by rw [if_neg (show ¬ (false = true) by decide)] at H; exact H
   clear H
   have H := H1
   clear H1
   obtain rfl := Option.some.inj H
   go_enter Tryz.func284, Tryz.ntmps284
   go_wp2_with (first | ((with_reducible refine gate_callee (f := 297) rfl ?_); refine goesL_ (some 8) rfl rfl Tryz.func297 (by kernel_rfl) rfl #[.int .u32 a0] rfl (by (try simp only [List.map_toArray, List.map_cons, List.map_nil]); first | done | rfl | (simp only [List.length_drop, List.length_take]; rfl)) ?_; (with_reducible refine (cmp_isNaN_uint32.calls a0 true _ A3.out).mono ?_); rintro e w' ⟨rfl, ⟨nd, rfl⟩⟩; refine ⟨_, rfl, ?_⟩) | ((with_reducible refine gate_callee (f := 297) rfl ?_); refine goesL_ (some 10) rfl rfl Tryz.func297 (by kernel_rfl) rfl #[.int .u32 a1] rfl (by (try simp only [List.map_toArray, List.map_cons, List.map_nil]); first | done | rfl | (simp only [List.length_drop, List.length_take]; rfl)) ?_; (with_reducible refine (cmp_isNaN_uint32.calls a1 false _ A4.out).mono ?_); rintro e w' ⟨rfl, ⟨nd, rfl⟩⟩; refine ⟨_, rfl, ?_⟩))
   go_ret
   exact ⟨by first | rfl | (simp; done) | (simp [*]; done), by repeat (first | exact Drawn0.refl _ | apply Drawn0.step)⟩
 ·replace c5 := Bool.eq_false_iff.mpr c5
  subst c5
  have H1 : (if t443 = true then (some 1) else (if a0 < a1 then (some (-1)) else (if a0 > a1 then (some 1) else (some 0)))) = some r := by rw [if_neg (show ¬ (false = true) by decide)] at H; exact H
  clear H
  have H := H1
  clear H1
  by_cases c7 : t443 = true
  ·subst c7
   have H1 : (some 1) = some r := by rw [if_pos rfl] at H; exact H
   clear H
   have H := H1
   clear H1
   obtain rfl := Option.some.inj H
   go_enter Tryz.func284, Tryz.ntmps284
   go_wp2_with (first | ((with_reducible refine gate_callee (f := 297) rfl ?_); refine goesL_ (some 8) rfl rfl Tryz.func297 (by kernel_rfl) rfl #[.int .u32 a0] rfl (by (try simp only [List.map_toArray, List.map_cons, List.map_nil]); first | done | rfl | (simp only [List.length_drop, List.length_take]; rfl)) ?_; (with_reducible refine (cmp_isNaN_uint32.calls a0 false _ A3.out).mono ?_); rintro e w' ⟨rfl, ⟨nd, rfl⟩⟩; refine ⟨_, rfl, ?_⟩) | ((with_reducible refine gate_callee (f := 297) rfl ?_); refine goesL_ (some 10) rfl rfl Tryz.func297 (by kernel_rfl) rfl #[.int .u32 a1] rfl (by (try simp only [List.map_toArray, List.map_cons, List.map_nil]); first | done | rfl | (simp only [List.length_drop, List.length_take]; rfl)) ?_; (with_reducible refine (cmp_isNaN_uint32.calls a1 true _ A4.out).mono ?_); rintro e w' ⟨rfl, ⟨nd, rfl⟩⟩; refine ⟨_, rfl, ?_⟩))
   go_ret
   exact ⟨by first | rfl | (simp; done) | (simp [*]; done), by repeat (first | exact Drawn0.refl _ | apply Drawn0.step)⟩
  ·replace c7 := Bool.eq_false_iff.mpr c7
   subst c7
   have H1 : (if a0 < a1 then (some (-1)) else (if a0 > a1 then (some 1) else (some 0))) = some r := by rw [if_neg (show ¬ (false = true) by decide)] at H; exact H
   clear H
   have H := H1
   clear H1
   by_cases c8 : a0 < a1
   ·rw [if_pos c8] at H
    have c8b0 : decide (a0 < a1) = true := decide_eq_true c8
    clear c8
    obtain rfl := Option.some.inj H
    go_enter Tryz.func284, Tryz.ntmps284
    go_wp2_with (first | ((with_reducible refine gate_callee (f := 297) rfl ?_); refine goesL_ (some 8) rfl rfl Tryz.func297 (by kernel_rfl) rfl #[.int .u32 a0] rfl (by (try simp only [List.map_toArray, List.map_cons, List.map_nil]); first | done | rfl | (simp only [List.length_drop, List.length_take]; rfl)) ?_; (with_reducible refine (cmp_isNaN_uint32.calls a0 false _ A3.out).mono ?_); rintro e w' ⟨rfl, ⟨nd, rfl⟩⟩; refine ⟨_, rfl, ?_⟩) | ((with_reducible refine gate_callee (f := 297) rfl ?_); refine goesL_ (some 10) rfl rfl Tryz.func297 (by kernel_rfl) rfl #[.int .u32 a1] rfl (by (try simp only [List.map_toArray, List.map_cons, List.map_nil]); first | done | rfl | (simp only [List.length_drop, List.length_take]; rfl)) ?_; (with_reducible refine (cmp_isNaN_uint32.calls a1 false _ A4.out).mono ?_); rintro e w' ⟨rfl, ⟨nd, rfl⟩⟩; refine ⟨_, rfl, ?_⟩))
    go_ret
    exact ⟨by first | rfl | (simp; done) | (simp [*]; done), by repeat (first | exact Drawn0.refl _ | apply Drawn0.step)⟩
   ·rw [if_neg c8] at H
    have c8b0 : decide (a0 < a1) = false := decide_eq_false c8
    clear c8
    by_cases c9 : a0 > a1
    ·rw [if_pos c9] at H
     have c9b0 : decide (a1 < a0) = true := decide_eq_true c9
     clear c9
     obtain rfl := Option.some.inj H
     go_enter Tryz.func284, Tryz.ntmps284
     go_wp2_with (first | ((with_reducible refine gate_callee (f := 297) rfl ?_); refine goesL_ (some 8) rfl rfl Tryz.func297 (by kernel_rfl) rfl #[.int .u32 a0] rfl (by (try simp only [List.map_toArray, List.map_cons, List.map_nil]); first | done | rfl | (simp only [List.length_drop, List.length_take]; rfl)) ?_; (with_reducible refine (cmp_isNaN_uint32.calls a0 false _ A3.out).mono ?_); rintro e w' ⟨rfl, ⟨nd, rfl⟩⟩; refine ⟨_, rfl, ?_⟩) | ((with_reducible refine gate_callee (f := 297) rfl ?_); refine goesL_ (some 10) rfl rfl Tryz.func297 (by kernel_rfl) rfl #[.int .u32 a1] rfl (by (try simp only [List.map_toArray, List.map_cons, List.map_nil]); first | done | rfl | (simp only [List.length_drop, List.length_take]; rfl)) ?_; (with_reducible refine (cmp_isNaN_uint32.calls a1 false _ A4.out).mono ?_); rintro e w' ⟨rfl, ⟨nd, rfl⟩⟩; refine ⟨_, rfl, ?_⟩))
     go_ret
     exact ⟨by first | rfl | (simp; done) | (simp [*]; done), by repeat (first | exact Drawn0.refl _ | apply Drawn0.step)⟩
    ·rw [if_neg c9] at H
     have c9b0 : decide (a1 < a0) = false := decide_eq_false c9
     clear c9
     obtain rfl := Option.some.inj H
     go_enter Tryz.func284, Tryz.ntmps284
     go_wp2_with (first | ((with_reducible refine gate_callee (f := 297) rfl ?_); refine goesL_ (some 8) rfl rfl Tryz.func297 (by kernel_rfl) rfl #[.int .u32 a0] rfl (by (try simp only [List.map_toArray, List.map_cons, List.map_nil]); first | done | rfl | (simp only [List.length_drop, List.length_take]; rfl)) ?_; (with_reducible refine (cmp_isNaN_uint32.calls a0 false _ A3.out).mono ?_); rintro e w' ⟨rfl, ⟨nd, rfl⟩⟩; refine ⟨_, rfl, ?_⟩) | ((with_reducible refine gate_callee (f := 297) rfl ?_); refine goesL_ (some 10) rfl rfl Tryz.func297 (by kernel_rfl) rfl #[.int .u32 a1] rfl (by (try simp only [List.map_toArray, List.map_cons, List.map_nil]); first | done | rfl | (simp only [List.length_drop, List.length_take]; rfl)) ?_; (with_reducible refine (cmp_isNaN_uint32.calls a1 false _ A4.out).mono ?_); rintro e w' ⟨rfl, ⟨nd, rfl⟩⟩; refine ⟨_, rfl, ?_⟩))
     go_ret
     exact ⟨by first | rfl | (simp; done) | (simp [*]; done), by repeat (first | exact Drawn0.refl _ | apply Drawn0.step)⟩
def impl_magCmp.l0 : Nat → List Int → List Int → Int → Option (Int)
 | 0, _, _, _ => none
 | k + 1, x0, x1, x5 => if x5 ≥ 0 then (if 0 ≤ x5 then (if x5 < (x0.length : Int) then (if x5 < (x1.length : Int) then (if (rd x0 x5) = (rd x1 x5) then (impl_magCmp.l0 k x0 x1 (wrap64 (x5 - 1))) else ((cmp_Compare_uint32.f (rd x0 x5) (rd x1 x5)).bind fun t449 => (some t449))) else (none)) else (none)) else (none)) else (some 0)
def impl_magCmp.f (k : Nat) (l0 : List Int) (l1 : List Int) : Option (Int) := if (l0.length : Int) = (l1.length : Int) then (impl_magCmp.l0 k l0 l1 (wrap64 ((l0.length : Int) - 1))) else ((cmp_Compare_int.f (l0.length : Int) (l1.length : Int)).bind fun t444 => (some t444))
set_option maxHeartbeats 8000000 in
set_option maxRecDepth 100000 in
theorem impl_magCmp.calls (k : Nat) (A0 : Option Addr) (c0 : Nat) (l0 : List Int) (A1 : Option Addr) (c1 : Nat) (l1 : List Int) (r : Int) (w : World) (hr0 : Kd.C (Kd.int .u32) w A0 l0.length l0) (hc0 : l0.length ≤ c0) (hr1 : Kd.C (Kd.int .u32) w A1 l1.length l1) (hc1 : l1.length ≤ c1) (h : impl_magCmp.f k l0 l1 = some r) :
  Calls Tryz.prog 266 #[.slice A0 l0.length c0, .slice A1 l1.length c1] w fun e w' => e = .returned (.int .i64 r) ∧ Drawn0 w w' := by
 have HR0 := As_.mk hr0
 have HC0 := As_.mk hc0
 clear hr0 hc0
 have HR1 := As_.mk hr1
 have HC1 := As_.mk hc1
 clear hr1 hc1
 have H : (if (l0.length : Int) = (l1.length : Int) then (impl_magCmp.l0 k l0 l1 (wrap64 ((l0.length : Int) - 1))) else ((cmp_Compare_int.f (l0.length : Int) (l1.length : Int)).bind fun t444 => (some t444))) = some r := h
 clear h
 by_cases c3 : (l0.length : Int) = (l1.length : Int)
 ·rw [if_pos c3] at H
  have c3b0 : ((l0.length : Int) == (l1.length : Int)) = true := beq_iff_eq.mpr c3
  have c3b1 : ((l0.length : Int) != (l1.length : Int)) = false := bne_eq_false_iff_eq.mpr c3
  have c3b2 : (l0.length == l1.length) = true := by first | simpa using c3 | (simp at c3 ⊢; omega)
  clear c3
  have H' := As_.mk H
  clear H
  go_enter Tryz.func266, Tryz.ntmps266
  go_wp2
  repeat (go_quiet (fail); try go_wp2)
  go_loopg [5] k (fun kq v5 w' => ∃ (x5_1 : Int), v5 = .int .i64 x5_1 ∧ As_ (impl_magCmp.l0 kq l0 l1 x5_1 = some r) ∧ As_ (kq ≤ k) ∧ Drawn0 w w')
  case atStart => exact ⟨(wrap64 ((l0.length : Int) - 1)), (by first | rfl | (simp; done) | (simp [*]; done)), H', ⟨Nat.le_refl _⟩, by repeat (first | exact Drawn0.refl _ | apply Drawn0.step)⟩
  case round =>
   clear H'
   try clear c1
   try clear c2
   try clear p2
   try clear c3
   try clear c3b0
   try clear c3b1
   try clear c3b2
   obtain ⟨x5_1, rfl, HA, HK1, ⟨m1, rfl⟩⟩ := hrel
   cases gk with
   | zero => exact absurd HA.out (by simp [impl_magCmp.l0])
   | succ k1 =>
    have H := HA.out
    clear HA
    simp only [impl_magCmp.l0] at H
    by_cases c4 : x5_1 ≥ 0
    ·rw [if_pos c4] at H
     have c4b0 : decide (0 ≤ x5_1) = true := decide_eq_true c4
     clear c4
     by_cases c5 : 0 ≤ x5_1
     ·rw [if_pos c5] at H
      have c5b0 : decide (0 ≤ x5_1) = true := decide_eq_true c5
      clear c5
      by_cases c6 : x5_1 < (l0.length : Int)
      ·rw [if_pos c6] at H
       have c6b0 : decide (x5_1 < (l0.length : Int)) = true := decide_eq_true c6
       clear c6
       by_cases c7 : x5_1 < (l1.length : Int)
       ·rw [if_pos c7] at H
        have c7b0 : decide (x5_1 < (l1.length : Int)) = true := decide_eq_true c7
        clear c7
        by_cases c8 : (rd l0 x5_1) = (rd l1 x5_1)
        ·rw [if_pos c8] at H
         have c8b0 : ((rd l0 x5_1) == (rd l1 x5_1)) = true := beq_iff_eq.mpr c8
         have c8b1 : ((rd l0 x5_1) != (rd l1 x5_1)) = false := bne_eq_false_iff_eq.mpr c8
         clear c8
         have H' := As_.mk H
         clear H
         have p445 : 0 ≤ (x5_1 : Int) := of_decide_eq_true (by first | (with_reducible assumption) | assumption)
         have q445 : x5_1 < (l0.length : Int) := of_decide_eq_true (by first | (with_reducible assumption) | assumption)
         obtain ⟨ad445, e445, hx445_0⟩ := Kd.at_int HR0.out x5_1 p445 q445
         cases e445
         replace p445 := eq_true p445
         replace q445 := eq_true q445
         have p446 : 0 ≤ (x5_1 : Int) := of_decide_eq_true (by first | (with_reducible assumption) | assumption)
         have q446 : x5_1 < (l1.length : Int) := of_decide_eq_true (by first | (with_reducible assumption) | assumption)
         obtain ⟨ad446, e446, hx446_0⟩ := Kd.at_int HR1.out x5_1 p446 q446
         cases e446
         replace p446 := eq_true p446
         replace q446 := eq_true q446
         go_wp2
         repeat (go_quiet (fail); try go_wp2)
         go_roundg k1
         case measure => have := HK1.out; omega
         case rel => exact ⟨(wrap64 (x5_1 - 1)), (by first | rfl | (simp; done) | (simp [*]; done)), H', ⟨by have := HK1.out; omega⟩, by repeat (first | exact Drawn0.refl _ | apply Drawn0.step)⟩
        ·rw [if_neg c8] at H
         have c8b0 : ((rd l0 x5_1) == (rd l1 x5_1)) = false := beq_eq_false_iff_ne.mpr c8
         have c8b1 : ((rd l0 x5_1) != (rd l1 x5_1)) = true := bne_iff_ne.mpr c8
         replace H := Option.bind_eq_some_iff.mp H
         obtain ⟨t449, A90, H⟩ := H
         replace H : (some t449) = some r := H
         have A9 := As_.mk A90
         clear A90
         obtain rfl := Option.some.inj H
         have p445 : 0 ≤ (x5_1 : Int) := of_decide_eq_true (by first | (with_reducible assumption) | assumption)
         have q445 : x5_1 < (l0.length : Int) := of_decide_eq_true (by first | (with_reducible assumption) | assumption)
         obtain ⟨ad445, e445, hx445_0⟩ := Kd.at_int HR0.out x5_1 p445 q445
         cases e445
         replace p445 := eq_true p445
         replace q445 := eq_true q445
         have p446 : 0 ≤ (x5_1 : Int) := of_decide_eq_true (by first | (with_reducible assumption) | assumption)
         have q446 : x5_1 < (l1.length : Int) := of_decide_eq_true (by first | (with_reducible assumption) | assumption)
         obtain ⟨ad446, e446, hx446_0⟩ := Kd.at_int HR1.out x5_1 p446 q446
         cases e446
         replace p446 := eq_true p446
         replace q446 := eq_true q446
         have p447 : 0 ≤ (x5_1 : Int) := of_decide_eq_true (by first | (with_reducible assumption) | assumption)
         have q447 : x5_1 < (l0.length : Int) := of_decide_eq_true (by first | (with_reducible assumption) | assumption)
         obtain ⟨ad447, e447, hx447_0⟩ := Kd.at_int HR0.out x5_1 p447 q447
         obtain rfl : ad445 = ad447 := (by injection e447)
         replace p447 := eq_true p447
         replace q447 := eq_true q447
         have p448 : 0 ≤ (x5_1 : Int) := of_decide_eq_true (by first | (with_reducible assumption) | assumption)
         have q448 : x5_1 < (l1.length : Int) := of_decide_eq_true (by first | (with_reducible assumption) | assumption)
         obtain ⟨ad448, e448, hx448_0⟩ := Kd.at_int HR1.out x5_1 p448 q448
         obtain rfl : ad446 = ad448 := (by injection e448)
         replace p448 := eq_true p448
         replace q448 := eq_true q448
         go_wp2_with (first | (go_at_call 284; (with_reducible refine (cmp_Compare_uint32.calls (rd l0 x5_1) (rd l1 x5_1) t449 _ A9.out).mono ?_); rintro e w' ⟨rfl, ⟨nd, rfl⟩⟩; (try first | exact ⟨rfl, _, World.drewN_drewN _ _ _⟩ | exact ⟨rfl, _, Eq.trans (World.drewN_drewN _ _ _) (congrArg (World.drewN _) (Nat.add_assoc _ _ _))⟩)))
         repeat (go_quiet (first | (go_at_call 284; (with_reducible refine (cmp_Compare_uint32.calls (rd l0 x5_1) (rd l1 x5_1) t449 _ A9.out).mono ?_); rintro e w' ⟨rfl, ⟨nd, rfl⟩⟩; (try first | exact ⟨rfl, _, World.drewN_drewN _ _ _⟩ | exact ⟨rfl, _, Eq.trans (World.drewN_drewN _ _ _) (congrArg (World.drewN _) (Nat.add_assoc _ _ _))⟩))); try go_wp2_with (first | (go_at_call 284; (with_reducible refine (cmp_Compare_uint32.calls (rd l0 x5_1) (rd l1 x5_1) t449 _ A9.out).mono ?_); rintro e w' ⟨rfl, ⟨nd, rfl⟩⟩; (try first | exact ⟨rfl, _, World.drewN_drewN _ _ _⟩ | exact ⟨rfl, _, Eq.trans (World.drewN_drewN _ _ _) (congrArg (World.drewN _) (Nat.add_assoc _ _ _))⟩))))
         go_ret
         exact ⟨by first | rfl | (simp; done) | (simp [*]; done), by repeat (first | exact Drawn0.refl _ | apply Drawn0.step)⟩
       ·rw [if_neg c7] at H
        exact absurd H (by simp)
      ·rw [if_neg c6] at H
       exact absurd H (by simp)
     ·rw [if_neg c5] at H
      exact absurd H (by simp)
    ·rw [if_neg c4] at H
     have c4b0 : decide (0 ≤ x5_1) = false := decide_eq_false c4
     clear c4
     obtain rfl := Option.some.inj H
     go_wp2
     repeat (go_quiet (fail); try go_wp2)
     go_ret
     exact ⟨by first | rfl | (simp; done) | (simp [*]; done), by repeat (first | exact Drawn0.refl _ | apply Drawn0.step)⟩
 ·rw [if_neg c3] at H
  have c3b0 : ((l0.length : Int) == (l1.length : Int)) = false := beq_eq_false_iff_ne.mpr c3
  have c3b1 : ((l0.length : Int) != (l1.length : Int)) = true := bne_iff_ne.mpr c3
  have c3b2 : (l0.length == l1.length) = false := by first | simpa using c3 | (simp at c3 ⊢; omega)
  replace H := Option.bind_eq_some_iff.mp H
  obtain ⟨t444, A100, H⟩ := H
  replace H : (some t444) = some r := H
  have A10 := As_.mk A100
  clear A100
  obtain rfl := Option.some.inj H
  go_enter Tryz.func266, Tryz.ntmps266
  go_wp2_with (first | (go_at_call 283; (with_reducible refine (cmp_Compare_int.calls (l0.length : Int) (l1.length : Int) t444 _ A10.out).mono ?_); rintro e w' ⟨rfl, ⟨nd, rfl⟩⟩; (try first | exact ⟨rfl, _, World.drewN_drewN _ _ _⟩ | exact ⟨rfl, _, Eq.trans (World.drewN_drewN _ _ _) (congrArg (World.drewN _) (Nat.add_assoc _ _ _))⟩)))
  repeat (go_quiet (first | (go_at_call 283; (with_reducible refine (cmp_Compare_int.calls (l0.length : Int) (l1.length : Int) t444 _ A10.out).mono ?_); rintro e w' ⟨rfl, ⟨nd, rfl⟩⟩; (try first | exact ⟨rfl, _, World.drewN_drewN _ _ _⟩ | exact ⟨rfl, _, Eq.trans (World.drewN_drewN _ _ _) (congrArg (World.drewN _) (Nat.add_assoc _ _ _))⟩))); try go_wp2_with (first | (go_at_call 283; (with_reducible refine (cmp_Compare_int.calls (l0.length : Int) (l1.length : Int) t444 _ A10.out).mono ?_); rintro e w' ⟨rfl, ⟨nd, rfl⟩⟩; (try first | exact ⟨rfl, _, World.drewN_drewN _ _ _⟩ | exact ⟨rfl, _, Eq.trans (World.drewN_drewN _ _ _) (congrArg (World.drewN _) (Nat.add_assoc _ _ _))⟩))))
  go_ret
  exact ⟨by first | rfl | (simp; done) | (simp [*]; done), by repeat (first | exact Drawn0.refl _ | apply Drawn0.step)⟩
end Go.Proofs.YtlogcnglmdpejaaGreatDoor.Pq
end
section
namespace Go.Proofs.YtlogcnglmdpejaaGreatDoor.Hd
open Go.RowKit Go.Proofs.YtlogcnglmdpejaaGreatDoorW.PrintWords Go.Proofs.YtlogcnglmdpejaaGreatDoor.Pq
set_option linter.unusedVariables false
set_option linter.unusedSimpArgs false
theorem w64 {x : Int} (h0 : -9223372036854775808 ≤ x) (h1 : x ≤ 9223372036854775807) : wrap64 x = x := by unfold wrap64; omega
theorem w64s (i : Nat) (h : i ≤ 1000000000000) : wrap64 ((i : Int) + 1) = ((i + 1 : Nat) : Int) := by rw [w64 (by omega) (by omega)]; omega
theorem w64a (i j : Nat) (h : i ≤ 1000000000000) (h2 : j ≤ 1000000000000) : wrap64 ((i : Int) + (j : Int)) = ((i + j : Nat) : Int) := by rw [w64 (by omega) (by omega)]; omega
theorem w64p (i : Nat) (h : i ≤ 1000000000000) : wrap64 (((i + 1 : Nat) : Int) - 1) = (i : Int) := by rw [w64 (by omega) (by omega)]; omega
theorem u64w_eq (x : Int) : IntKind.u64.wrap x = x % 18446744073709551616 := by
  simp [IntKind.wrap, IntKind.bits, IntKind.signed]
theorem u64w {x : Int} (h0 : 0 ≤ x) (h1 : x < 18446744073709551616) : IntKind.u64.wrap x = x := by
  rw [u64w_eq]; omega
def fuel : Nat := 10000000
theorem fuel_ge : 9000000 ≤ fuel := by unfold fuel; omega
theorem rd_getD (l : List Int) (i : Nat) : rd l (i : Int) = l.getD i 0 := by unfold rd; simp
theorem rd_last (a : List Int) (d : Int) : rd (a ++ [d]) ((a.length : Int)) = d := by
  rw [rd_getD]; simp
theorem take_set_succ (l : List Int) (i : Nat) (v : Int) (h : i < l.length) : (l.set i v).take (i + 1) = l.take i ++ [v] := by
  rw [List.take_succ_eq_append_getElem (by simpa using h), List.take_set_of_le (Nat.le_refl _)]
  simp
theorem drop_getD (l : List Int) (i : Nat) (h : i < l.length) : l.drop i = l.getD i 0 :: l.drop (i + 1) := by
  rw [List.drop_eq_getElem_cons h, List.getD_eq_getElem?_getD, List.getElem?_eq_getElem h]
  rfl
theorem vl_cons (B : Int) (d : Int) (r : List Int) : vl B (d :: r) = d + B * vl B r := rfl
theorem vl_nil (B : Int) : vl B [] = 0 := rfl
theorem subDig (t : Int) (h0 : -4294967296 ≤ t) (h1 : t < 4294967296) :
    ∃ v br : Int, IntKind.u64.wrap t % 4294967296 = v ∧ IntKind.u64.wrap t / 9223372036854775808 = br ∧ (br = 0 ∨ br = 1) ∧ 0 ≤ v ∧ v < 4294967296 ∧ v = t + 4294967296 * br := by
  rw [u64w_eq]
  by_cases h : t < 0
  · exact ⟨t + 4294967296, 1, by omega, by omega, .inr rfl, by omega, by omega, by omega⟩
  · exact ⟨t, 0, by omega, by omega, .inl rfl, by omega, by omega, by omega⟩
theorem magTrim_l0 (n : Nat) : ∀ (k : Nat) (l : List Int), l.length = n → n < k → n ≤ 1000000 → impl_magTrim.l0 k l = some (trim l) := by
  induction n with
  | zero =>
    intro k l hl hk _
    obtain ⟨k, rfl⟩ : ∃ m, k = m + 1 := ⟨k - 1, by omega⟩
    rw [List.length_eq_zero_iff.1 hl]
    simp [impl_magTrim.l0, trim_nil]
  | succ n ih =>
    intro k l hl hk hb
    obtain ⟨k, rfl⟩ : ∃ m, k = m + 1 := ⟨k - 1, by omega⟩
    rcases snoc_cases l with rfl | ⟨a, d, rfl⟩
    · simp at hl
    · have hla : a.length = n := by simpa using hl
      have hr : rd (a ++ [d]) (n : Int) = d := by rw [← hla]; exact rd_last a d
      simp only [impl_magTrim.l0]
      rw [hl, w64p n (by omega), hr, if_pos (by omega), if_pos (by omega), if_pos (by omega)]
      by_cases h : d = 0
      · subst h
        rw [if_pos rfl, if_pos (by omega), trim_snoc_zero]
        have : ((a ++ [(0 : Int)]).take ((n : Int)).toNat) = a := by rw [Int.toNat_natCast, ← hla]; simp
        rw [this]
        exact ih k a hla (by omega) (by omega)
      · rw [if_neg h, trim_snoc a h]
theorem magTrim_f {k : Nat} {l : List Int} (hk : l.length < k) (hb : l.length ≤ 1000000) (hd : Dg 4294967296 l) : impl_magTrim.f k l = some (D (vl 4294967296 l).toNat) := by
  unfold impl_magTrim.f
  rw [magTrim_l0 l.length k l rfl hk hb, D_trim hd]
theorem magSub_l0 (m : Nat) : ∀ (k i : Nat) (a b x : List Int) (br : Int), a.length - i = m → i ≤ a.length → x.length = a.length → b.length ≤ a.length → a.length ≤ 1000000 → 2000000 ≤ k → k < 9000000000 →
    (br = 0 ∨ br = 1) → Dg 4294967296 a → Dg 4294967296 b → Dg 4294967296 x → 0 ≤ vl 4294967296 (x.take i) + (4294967296 : Int) ^ i * (vl 4294967296 (a.drop i) - vl 4294967296 (b.drop i) - br) →
    impl_magSub.l0 (k + m) b x br a (a.length : Int) (i : Int) = some (D (vl 4294967296 (x.take i) + (4294967296 : Int) ^ i * (vl 4294967296 (a.drop i) - vl 4294967296 (b.drop i) - br)).toNat) := by
  induction m with
  | zero =>
    intro k i a b x br hm hi hx hba hal hk hk2 hbr ha hb hxd hV
    obtain rfl : i = a.length := by omega
    obtain ⟨k, rfl⟩ : ∃ m, k = m + 1 := ⟨k - 1, by omega⟩
    simp only [impl_magSub.l0]
    rw [if_neg (by omega), magTrim_f (by omega) (by omega) hxd]
    simp only [Option.bind_some]
    rw [List.take_of_length_le (by omega)] at hV ⊢
    rw [List.drop_of_length_le (Nat.le_refl _), List.drop_of_length_le hba, vl_nil] at hV ⊢
    have h1 := vl_lt hxd
    rw [hx] at h1
    rcases hbr with rfl | rfl
    · simp
    · exfalso
      omega
  | succ m ih =>
    intro k i a b x br hm hi hx hba hal hk hk2 hbr ha hb hxd hV'
    have HV := As_.mk hV'
    clear hV'
    have hlt : i < a.length := by omega
    have ha' := ha.getD (by omega) i
    rw [show k + (m + 1) = (k + m) + 1 by omega]
    simp only [impl_magSub.l0]
    rw [if_pos (by omega), if_pos (by omega), if_pos (by omega)]
    rw [w64s i (by omega), rd_getD, u64w (x := a.getD i 0) (by omega) (by omega)]
    have hda := drop_getD a i hlt
    by_cases hib : (i : Int) < (b.length : Int)
    · have hdb := drop_getD b i (by omega)
      have hb' := hb.getD (by omega) i
      rw [if_pos hib, if_pos (by omega), rd_getD, u64w (x := b.getD i 0) (by omega) (by omega), u64w (x := br + b.getD i 0) (by omega) (by omega)]
      have hdig := subDig (a.getD i 0 - (br + b.getD i 0)) (by omega) (by omega)
      obtain ⟨v, br', e1, e2, hbr', h0, h1, hv⟩ := hdig
      rw [e1, e2, Int.toNat_natCast]
      have hstep : vl 4294967296 ((x.set i v).take (i + 1)) + (4294967296 : Int) ^ (i + 1) * (vl 4294967296 (a.drop (i + 1)) - vl 4294967296 (b.drop (i + 1)) - br') = vl 4294967296 (x.take i) + (4294967296 : Int) ^ i * (vl 4294967296 (a.drop i) - vl 4294967296 (b.drop i) - br) := by
        rw [take_set_succ x i v (by omega), vl_snoc, List.length_take, Nat.min_eq_left (by omega), hda, hdb, vl_cons, vl_cons, Int.pow_succ]
        exact step_id _ _ _ _ _ _ (by rw [hv]; omega)
      have hV := HV.out
      rw [← hstep]
      rw [← hstep] at hV
      have HV := As_.mk hV
      clear hV hstep
      have h1 := ih k (i + 1) a b (x.set i v) br' (by omega) (by omega) (by simpa using hx) hba hal hk hk2 hbr' ha hb (hxd.set i h0 h1)
      exact h1 HV.out
    · rw [if_neg hib, if_pos (by omega)]
      have hdb : b.drop i = [] := List.drop_of_length_le (by omega)
      have hdb' : b.drop (i + 1) = [] := List.drop_of_length_le (by omega)
      have hdig := subDig (a.getD i 0 - br) (by omega) (by omega)
      obtain ⟨v, br', e1, e2, hbr', h0, h1, hv⟩ := hdig
      rw [e1, e2, Int.toNat_natCast]
      have hstep : vl 4294967296 ((x.set i v).take (i + 1)) + (4294967296 : Int) ^ (i + 1) * (vl 4294967296 (a.drop (i + 1)) - vl 4294967296 (b.drop (i + 1)) - br') = vl 4294967296 (x.take i) + (4294967296 : Int) ^ i * (vl 4294967296 (a.drop i) - vl 4294967296 (b.drop i) - br) := by
        rw [take_set_succ x i v (by omega), vl_snoc, List.length_take, Nat.min_eq_left (by omega), hda, hdb, hdb', vl_cons, vl_nil, Int.pow_succ]
        exact step_id _ _ _ _ _ _ (by rw [hv]; omega)
      have hV := HV.out
      rw [← hstep]
      rw [← hstep] at hV
      have HV := As_.mk hV
      clear hV hstep
      have h1 := ih k (i + 1) a b (x.set i v) br' (by omega) (by omega) (by simpa using hx) hba hal hk hk2 hbr' ha hb (hxd.set i h0 h1)
      exact h1 HV.out
theorem magSub_f {k m n : Nat} (hmn : n ≤ m) (hm : (D m).length ≤ 1000000) (hk : 3000000 ≤ k) (hk2 : k < 9000000000) :
    impl_magSub.f k (D m) (D n) = some (D (m - n)) := by
  unfold impl_magSub.f
  have hlen : (D n).length ≤ (D m).length := D_mono hmn
  rw [if_pos (by omega), if_pos (by omega), Int.toNat_natCast]
  have h := magSub_l0 (D m).length (k - (D m).length) 0 (D m) (D n) (List.replicate (D m).length 0) 0 (by omega) (by omega) (by simp) hlen hm (by omega) (by omega) (.inl rfl)
    (D_dg m) (D_dg n) (Dg.replicate (by omega) _) (by simp [vl_nil, D_vl]; omega)
  rw [show k - (D m).length + (D m).length = k by omega] at h
  rw [show ((0 : Nat) : Int) = 0 from rfl] at h
  rw [h]
  congr 2
  simp [vl_nil, D_vl]
theorem cmpInt_f (a b : Int) : cmp_Compare_int.f a b = some (if a < b then -1 else if b < a then 1 else 0) := by
  unfold cmp_Compare_int.f cmp_isNaN_int.f
  simp
  split <;> first | rfl | (split <;> rfl)
theorem cmpU32_f (a b : Int) : cmp_Compare_uint32.f a b = some (if a < b then -1 else if b < a then 1 else 0) := by
  unfold cmp_Compare_uint32.f cmp_isNaN_uint32.f
  simp
  split <;> first | rfl | (split <;> rfl)
theorem magBits_l0 (n : Nat) : ∀ (k m : Nat) (c : Int), m < 2 ^ n → n < k → 0 ≤ c → c + n ≤ 1000000000 → impl_magBits.l0 k c (m : Int) = some (c + bits m) := by
  induction n with
  | zero =>
    intro k m c hm hk _ _
    obtain ⟨k, rfl⟩ : ∃ m, k = m + 1 := ⟨k - 1, by omega⟩
    have : m = 0 := by simpa using hm
    subst this
    simp [impl_magBits.l0, bits_zero]
  | succ n ih =>
    intro k m c hm hk hc hb
    obtain ⟨k, rfl⟩ : ∃ m, k = m + 1 := ⟨k - 1, by omega⟩
    simp only [impl_magBits.l0]
    rcases Nat.eq_zero_or_pos m with rfl | h
    · simp [bits_zero]
    · rw [if_pos (by omega), w64 (by omega) (by omega), show (m : Int) / 2 = ((m / 2 : Nat) : Int) by simp, ih k (m / 2) (c + 1) (by rw [Nat.pow_succ] at hm; omega) (by omega) (by omega) (by omega), bits_half h]
      congr 1
      omega
theorem magBits_f {k n : Nat} (hl : (D n).length ≤ 1000000) (hk : 100 ≤ k) : impl_magBits.f k (D n) = some (bits n : Int) := by
  unfold impl_magBits.f
  rcases Nat.eq_zero_or_pos n with rfl | hn
  · rw [D_zero]; simp [bits_zero]
  · obtain ⟨a, t, e, h1, h2, h3⟩ := D_bits hn
    rw [e] at hl ⊢
    have hla : (a ++ [(t : Int)]).length = a.length + 1 := by simp
    rw [hla] at hl ⊢
    rw [if_neg (by omega), w64 (by omega) (by omega), show ((a.length + 1 : Nat) : Int) - 1 = (a.length : Int) by omega, if_pos (by omega), if_pos (by omega), rd_last, w64 (by omega) (by omega), magBits_l0 32 k t _ h2 (by omega) (by omega) (by omega), h3]
    congr 1
theorem cm_self (a : Int) : cm a a = 0 := by unfold cm; simp
theorem cm_lt {a b : Int} (h : a < b) : cm a b = -1 := by unfold cm; rw [if_pos h]
theorem cm_gt {a b : Int} (h : b < a) : cm a b = 1 := by unfold cm; rw [if_neg (by omega), if_pos h]
theorem top_lt {p u v x y : Int} (hp : 0 < p) (hu : u < p) (hv : 0 ≤ v) (h : x < y) : u + p * x < v + p * y := by
  have : p * (x + 1) ≤ p * y := Int.mul_le_mul_of_nonneg_left (by omega) (by omega)
  rw [Int.mul_add, Int.mul_one] at this
  omega
theorem vl_take_lt {a : List Int} (ha : Dg 4294967296 a) (n : Nat) (h : n ≤ a.length) : vl 4294967296 (a.take n) < (4294967296 : Int) ^ n := by
  have := vl_lt (ha.take n)
  rwa [List.length_take, Nat.min_eq_left h] at this
theorem magCmp_l0 (n : Nat) : ∀ (k : Nat) (a b : List Int), n ≤ a.length → n ≤ b.length → n < k → n ≤ 1000000 → Dg 4294967296 a → Dg 4294967296 b →
    impl_magCmp.l0 k a b ((n : Int) - 1) = some (cm (vl 4294967296 (a.take n)) (vl 4294967296 (b.take n))) := by
  induction n with
  | zero =>
    intro k a b _ _ hk _ _ _
    obtain ⟨k, rfl⟩ : ∃ m, k = m + 1 := ⟨k - 1, by omega⟩
    simp [impl_magCmp.l0, vl_nil, cm_self]
  | succ n ih =>
    intro k a b hna hnb hk hn ha hb
    obtain ⟨k, rfl⟩ : ∃ m, k = m + 1 := ⟨k - 1, by omega⟩
    simp only [impl_magCmp.l0]
    rw [show ((n + 1 : Nat) : Int) - 1 = (n : Int) by omega, if_pos (by omega), if_pos (by omega), if_pos (by omega), if_pos (by omega), rd_getD, rd_getD]
    by_cases h : a.getD n 0 = b.getD n 0
    · rw [if_pos h, w64 (by omega) (by omega), ih k a b (by omega) (by omega) (by omega) (by omega) ha hb, vl_take_succ 4294967296 a n (by omega), vl_take_succ 4294967296 b n (by omega), h]
      congr 1
      unfold cm
      simp
    · have hx : ¬ a.getD n 0 < b.getD n 0 → b.getD n 0 < a.getD n 0 := by omega
      rw [if_neg h, cmpU32_f, vl_take_succ 4294967296 a n (by omega), vl_take_succ 4294967296 b n (by omega)]
      simp only [Option.bind_some]
      congr 1
      have hna' : n ≤ a.length := by omega
      have hnb' : n ≤ b.length := by omega
      have hp : (0 : Int) < (4294967296 : Int) ^ n := Int.pow_pos (by omega)
      have ua := vl_take_lt ha n hna'
      have ub := vl_take_lt hb n hnb'
      have na := vl_nonneg (ha.take n)
      have nb := vl_nonneg (hb.take n)
      by_cases hlt : a.getD n 0 < b.getD n 0
      · rw [if_pos hlt, cm_lt (top_lt hp ua nb hlt)]
      · have hgt := hx hlt
        rw [if_neg hlt, if_pos hgt, cm_gt (top_lt hp ub na hgt)]
theorem magCmp_f {k m n : Nat} (hm : (D m).length ≤ 1000000) (hn : (D n).length ≤ 1000000) (hk : 2000000 ≤ k) : impl_magCmp.f k (D m) (D n) = some (cm m n) := by
  unfold impl_magCmp.f
  by_cases h : (D m).length = (D n).length
  · rw [if_pos (by omega), w64 (by omega) (by omega), magCmp_l0 (D m).length k (D m) (D n) (Nat.le_refl _) (by omega) (by omega) hm (D_dg m) (D_dg n)]
    rw [List.take_of_length_le (Nat.le_refl _), List.take_of_length_le (by omega), D_vl, D_vl]
  · rw [if_neg (by omega), cmpInt_f]
    simp only [Option.bind_some]
    congr 1
    by_cases hlt : (D m).length < (D n).length
    · rw [if_pos (by omega), cm_lt]
      have : ¬ n ≤ m := fun hle => by have := D_mono hle; omega
      omega
    · rw [if_neg (by omega), if_pos (by omega), cm_gt]
      have : ¬ m ≤ n := fun hle => by have := D_mono hle; omega
      omega
def Zr (x : List Int) (p : Nat) : Prop := ∀ j, p ≤ j → x.getD j 0 = 0
theorem getD_set (x : List Int) (i j : Nat) (v : Int) : (x.set i v).getD j 0 = if i = j ∧ i < x.length then v else x.getD j 0 := by
  rw [List.getD_eq_getElem?_getD, List.getD_eq_getElem?_getD, List.getElem?_set]
  by_cases h : i = j
  · subst h
    by_cases h2 : i < x.length
    · simp [h2]
    · simp [h2]
  · simp [h]
theorem Zr.set {x : List Int} {p i : Nat} (h : Zr x p) (hi : i < p) (v : Int) : Zr (x.set i v) p := by
  intro j hj
  rw [getD_set, if_neg (by omega)]
  exact h j hj
theorem Zr.set' {x : List Int} {p : Nat} (h : Zr x p) (v : Int) : Zr (x.set p v) (p + 1) := by
  intro j hj
  rw [getD_set, if_neg (by omega)]
  exact h j (by omega)
theorem Zr.vl {x : List Int} {p : Nat} (h : Zr x p) (B : Int) : vl B (x.drop p) = 0 := by
  have h2 : ∀ y : List Int, (∀ d ∈ y, d = 0) → Hd.vl B y = 0 := by
    intro y hy
    induction y with
    | nil => rfl
    | cons d r ih =>
      rw [vl_cons, ih (fun e he => hy e (List.mem_cons_of_mem _ he)), hy d List.mem_cons_self]
      simp
  apply h2
  intro d hd
  obtain ⟨i, hi, rfl⟩ := List.mem_iff_getElem.1 hd
  have := h (p + i) (by omega)
  rw [List.getD_eq_getElem?_getD] at this
  rw [List.getElem_drop]
  have hlt : p + i < x.length := by simpa [Nat.add_comm, Nat.lt_sub_iff_add_lt] using hi
  rw [List.getElem?_eq_getElem hlt] at this
  simpa using this
theorem mulDig (c x y o : Int) (hc : 0 ≤ c) (hc1 : c < 4294967296) (hx : 0 ≤ x) (hx1 : x < 4294967296) (hy : 0 ≤ y) (hy1 : y < 4294967296) (ho : 0 ≤ o) (ho1 : o < 4294967296) :
    ∃ v c' : Int, IntKind.u64.wrap (c + IntKind.u64.wrap (IntKind.u64.wrap (IntKind.u64.wrap x * IntKind.u64.wrap y) + IntKind.u64.wrap o)) % 4294967296 = v ∧
      IntKind.u64.wrap (c + IntKind.u64.wrap (IntKind.u64.wrap (IntKind.u64.wrap x * IntKind.u64.wrap y) + IntKind.u64.wrap o)) / 4294967296 = c' ∧
      0 ≤ v ∧ v < 4294967296 ∧ 0 ≤ c' ∧ c' < 4294967296 ∧ c + x * y + o = v + 4294967296 * c' := by
  have h0 : 0 ≤ x * y := Int.mul_nonneg hx hy
  have h1 : x * y ≤ 4294967295 * 4294967295 := Int.le_trans (Int.mul_le_mul_of_nonneg_right (show x ≤ 4294967295 by omega) hy) (Int.mul_le_mul_of_nonneg_left (by omega) (by omega))
  rw [u64w (x := x) (by omega) (by omega), u64w (x := y) (by omega) (by omega), u64w (x := o) (by omega) (by omega)]
  generalize x * y = z at h0 h1 ⊢
  rw [u64w (x := z) (by omega) (by omega), u64w (x := z + o) (by omega) (by omega), u64w (x := c + (z + o)) (by omega) (by omega)]
  exact ⟨_, _, rfl, rfl, by omega, by omega, by omega, by omega, by omega⟩
theorem magMul_l1 (m : Nat) : ∀ (k i j : Nat) (b x : List Int) (d c : Int) (a : List Int), b.length - j = m → j ≤ b.length → i + b.length < x.length → x.length ≤ 1000000 →
    0 ≤ d → d < 4294967296 → 0 ≤ c → c < 4294967296 → Dg 4294967296 b → Dg 4294967296 x → Zr x (i + b.length) →
    ∃ x' : List Int, impl_magMul.l1 (k + (m + 1)) b x (i : Int) d c a (a.length : Int) (i : Int) b (b.length : Int) (j : Int) = impl_magMul.l0 k b x' a (a.length : Int) ((i + 1 : Nat) : Int) ∧
      x'.length = x.length ∧ Dg 4294967296 x' ∧ Zr x' (i + 1 + b.length) ∧ vl 4294967296 x' = vl 4294967296 x + (4294967296 : Int) ^ (i + j) * (c + d * vl 4294967296 (b.drop j)) := by
  induction m with
  | zero =>
    intro k i j b x d c a hm hj hx hxl hd0 hd1 hc0 hc1 hb hxd hz
    obtain rfl : j = b.length := by omega
    rw [Nat.zero_add]
    simp only [impl_magMul.l1]
    rw [if_neg (by omega), w64a i b.length (by omega) (by omega), w64s i (by omega), if_pos (by omega), if_pos (by omega), Int.toNat_natCast]
    have hcm : c % 4294967296 = c := by omega
    rw [hcm]
    refine ⟨_, rfl, by simp, hxd.set _ hc0 hc1, ?_, ?_⟩
    · rw [show i + 1 + b.length = (i + b.length) + 1 by omega]
      exact hz.set' c
    · rw [vl_set _ _ _ _ hx, hz _ (Nat.le_refl _), List.drop_of_length_le (Nat.le_refl _), vl_nil]
      simp
  | succ m ih =>
    intro k i j b x d c a hm hj hx hxl hd0 hd1 hc0 hc1 hb hxd hz
    have hlt : j < b.length := by omega
    rw [show k + (m + 1 + 1) = (k + (m + 1)) + 1 by omega]
    simp only [impl_magMul.l1]
    rw [if_pos (by omega), if_pos (by omega), if_pos (by omega), w64a i j (by omega) (by omega), w64s j (by omega), if_pos (by omega), if_pos (by omega), Int.toNat_natCast, rd_getD, rd_getD]
    obtain ⟨hb0, hb1⟩ := hb.getD (by omega) j
    obtain ⟨ho0, ho1⟩ := hxd.getD (by omega) (i + j)
    obtain ⟨v, c', e1, e2, hv0, hv1, hc0', hc1', hs⟩ := mulDig c d (b.getD j 0) (x.getD (i + j) 0) hc0 hc1 hd0 hd1 hb0 hb1 ho0 ho1
    rw [e1, e2]
    obtain ⟨x', e, hl', hd', hz', hv'⟩ := ih k i (j + 1) b (x.set (i + j) v) d c' a (by omega) (by omega) (by simpa using hx) (by simpa using hxl) hd0 hd1 hc0' hc1' hb (hxd.set _ hv0 hv1) (hz.set (by omega) v)
    have hij : i + j < x.length := by
      clear hv'
      omega
    refine ⟨x', e, by simpa using hl', hd', hz', ?_⟩
    rw [hv', vl_set _ _ _ _ hij, drop_getD b j hlt, vl_cons, ← Nat.add_assoc, Int.pow_succ]
    refine step_id _ _ _ _ _ _ ?_
    rw [Int.mul_add, Int.mul_add, Int.mul_left_comm]
    clear hv' e e1 e2
    omega
theorem magMul_l0 (m : Nat) : ∀ (k i : Nat) (a b x : List Int), a.length - i = m → i ≤ a.length → x.length = a.length + b.length → x.length ≤ 1000000 → 2000000 ≤ k → Dg 4294967296 a → Dg 4294967296 b → Dg 4294967296 x →
    (b.length = 0 → a.length = i) → Zr x (i + b.length) → impl_magMul.l0 (k + m * (b.length + 2)) b x a (a.length : Int) (i : Int) = some (D (vl 4294967296 x + (4294967296 : Int) ^ i * (vl 4294967296 (a.drop i) * vl 4294967296 b)).toNat) := by
  induction m with
  | zero =>
    intro k i a b x hm hi hx hxl hk ha hb hxd _ hz
    obtain rfl : i = a.length := by omega
    obtain ⟨k, rfl⟩ : ∃ m, k = m + 1 := ⟨k - 1, by omega⟩
    simp only [Nat.zero_mul, Nat.add_zero, impl_magMul.l0]
    rw [if_neg (by omega), magTrim_f (by omega) (by omega) hxd]
    simp only [Option.bind_some]
    rw [List.drop_of_length_le (Nat.le_refl _), vl_nil]
    simp
  | succ m ih =>
    intro k i a b x hm hi hx hxl hk ha hb hxd h0 hz
    have hlt : i < a.length := by omega
    have hb0 : 0 < b.length := by
      rcases Nat.eq_zero_or_pos b.length with h | h
      · have := h0 h; omega
      · exact h
    rw [show k + (m + 1) * (b.length + 2) = (k + m * (b.length + 2) + (b.length + 1)) + 1 by rw [Nat.add_mul]; omega]
    simp only [impl_magMul.l0]
    rw [if_pos (by omega), if_pos (by omega), if_pos (by omega), rd_getD]
    obtain ⟨ha0, ha1⟩ := ha.getD (by omega) i
    obtain ⟨x', e, hl', hd', hz', hv'⟩ := magMul_l1 b.length (k + m * (b.length + 2)) i 0 b x (a.getD i 0) 0 a (by omega) (by omega) (by omega) hxl ha0 ha1 (by omega) (by omega) hb hxd hz
    have HV := As_.mk hv'
    clear hv'
    rw [show ((0 : Nat) : Int) = 0 from rfl] at e
    rw [e, ih k (i + 1) a b x' (by omega) (by omega) (by omega) (by omega) hk ha hb hd' (by omega) hz']
    congr 3
    rw [HV.out, drop_getD a i hlt, vl_cons, Int.pow_succ, Nat.add_zero, List.drop_zero, Int.zero_add]
    refine step_id _ _ _ _ _ _ ?_
    rw [Int.add_mul, Int.mul_assoc]
theorem w64_add0 (i : Nat) (h : i ≤ 1000000) : wrap64 ((i:Int) + (([]:List Int).length : Int)) = i := by
  rw [show (([]:List Int).length : Int) = 0 from rfl, Int.add_zero]
  exact w64 (by omega) (by omega)
theorem magMul_f {k m n : Nat} (hm : (D m).length ≤ 1000) (hn : (D n).length ≤ 1000) (hk : 4000000 ≤ k) : impl_magMul.f k (D m) (D n) = some (D (m * n)) := by
  unfold impl_magMul.f
  rw [w64a _ _ (by omega) (by omega), if_pos (by omega), if_pos (by omega), Int.toNat_natCast]
  have hmul : (D m).length * ((D n).length + 2) ≤ 1000 * 1002 := Nat.mul_le_mul hm (by omega)
  by_cases h0 : (D n).length = 0 ∧ (D m).length ≠ 0
  ·
    obtain ⟨h1, h2⟩ := h0
    have hn0 : n = 0 := D_len0.1 h1
    subst hn0
    have hrounds : ∀ (r : Nat) (k i : Nat) (a x : List Int), a.length - i = r → i ≤ a.length → x.length = a.length → x.length ≤ 1000000 → 2000000 ≤ k → Dg 4294967296 a → (∀ j, x.getD j 0 = 0) → Dg 4294967296 x →
        impl_magMul.l0 (k + 2 * r) [] x a (a.length : Int) (i : Int) = some [] := by
      intro r
      induction r with
      | zero =>
        intro k i a x hr hi hx hxl hk ha hz hxd
        obtain ⟨k, rfl⟩ : ∃ m, k = m + 1 := ⟨k - 1, by omega⟩
        simp only [Nat.mul_zero, Nat.add_zero, impl_magMul.l0]
        rw [if_neg (by omega), magTrim_f (by omega) (by omega) hxd]
        have := Zr.vl (x := x) (p := 0) (fun j _ => hz j) 4294967296
        rw [List.drop_zero] at this
        rw [this]
        simp [D_zero]
      | succ r ih =>
        intro k i a x hr hi hx hxl hk ha hz hxd
        obtain ⟨q, hq⟩ : ∃ q, k + 2 * r = q := ⟨_, rfl⟩
        rw [show k + 2 * (r + 1) = (q + 1) + 1 by omega]
        rw [impl_magMul.l0]
        rw [if_pos (by omega), if_pos (by omega), if_pos (by omega), impl_magMul.l1, if_neg (by simp), w64_add0 i (by omega), w64s i (by omega), if_pos (by omega), if_pos (by omega), Int.toNat_natCast]
        have e0 : ((0 : Int) % 4294967296) = 0 := rfl
        rw [e0, ← hq]
        refine ih k (i + 1) a (x.set i 0) (by omega) (by omega) (by simpa using hx) (by simpa using hxl) hk ha ?_ (hxd.set i (by omega) (by omega))
        intro j
        rw [getD_set]
        split
        · rfl
        · exact hz j
    rw [D_zero]
    have h3 := hrounds (D m).length (k - 2 * (D m).length) 0 (D m) (List.replicate ((D m).length) 0) (by omega) (by omega) (by simp) (by simp; omega) (by omega) (D_dg m) (by intro j; rw [List.getD_eq_getElem?_getD, List.getElem?_replicate]; split <;> rfl) (Dg.replicate (by omega) _)
    rw [show k - 2 * (D m).length + 2 * (D m).length = k by omega] at h3
    simpa [D_zero] using h3
  · have h := magMul_l0 (D m).length (k - (D m).length * ((D n).length + 2)) 0 (D m) (D n) (List.replicate ((D m).length + (D n).length) 0) (by omega) (by omega) (by simp) (by simp; omega) (by omega) (D_dg m) (D_dg n) (Dg.replicate (by omega) _)
      (by omega) (by intro j _; rw [List.getD_eq_getElem?_getD, List.getElem?_replicate]; split <;> rfl)
    rw [show k - (D m).length * ((D n).length + 2) + (D m).length * ((D n).length + 2) = k by omega] at h
    rw [show ((0 : Nat) : Int) = 0 from rfl] at h
    rw [h, vl_replicate, List.drop_zero, D_vl, D_vl]
    congr 2
    simp
    rw [← Int.natCast_mul, Int.toNat_natCast]
end Go.Proofs.YtlogcnglmdpejaaGreatDoor.Hd
end
