/- Part 17 of the proof of the card of FnExactV: walks of the functions and plain facts on them. -/
import Derived.Test.YtlogcnglmdpejaaGreatDoorMV16
import Derived.Outline
import Derived.Test.YtlogcnglmdpejaaGreatDoorMV0
import Derived.Deep.DeepCutAuto
section
namespace Go.Proofs.YtlogcnglmdpejaaGreatDoor.Hd
open Ieee
def rung (f : Format) (r : Nat) : Nat := if r < f.binade then r else (f.binade + r % f.binade) * 2 ^ (r / f.binade - 1)
theorem rung_step (f : Format) (r : Nat) : rung f r < rung f (r + 1) := by
  have hb : 0 < f.binade := Nat.two_pow_pos _
  unfold rung
  generalize f.binade = b at hb ⊢
  by_cases h1 : r < b
  · rw [if_pos h1]
    by_cases h2 : r + 1 < b
    · rw [if_pos h2]; omega
    · have : r + 1 = b := by omega
      rw [if_neg h2, this, Nat.mod_self, Nat.div_self hb]
      simp
      omega
  · rw [if_neg h1, if_neg (by omega)]
    have hq : 0 < r / b := Nat.div_pos (by omega) hb
    obtain ⟨q, hq'⟩ : ∃ q, r / b = q + 1 := ⟨r / b - 1, by omega⟩
    have hr := Nat.mod_lt r hb
    have hdm := Nat.div_add_mod r b
    have hp := Nat.two_pow_pos q
    by_cases h2 : r % b + 1 < b
    · have e : r + 1 = (r % b + 1) + b * (r / b) := by omega
      have e1 : (r + 1) % b = r % b + 1 := by
        rw [e, Nat.add_mul_mod_self_left, Nat.mod_eq_of_lt h2]
      have e2 : (r + 1) / b = r / b := by
        rw [e, Nat.add_mul_div_left _ _ hb, Nat.div_eq_of_lt h2, Nat.zero_add]
      rw [e1, e2]
      exact Nat.mul_lt_mul_of_pos_right (by omega) (Nat.two_pow_pos _)
    · have e : r + 1 = b * (r / b + 1) := by rw [Nat.mul_add, Nat.mul_one]; omega
      have e1 : (r + 1) % b = 0 := by rw [e, Nat.mul_mod_right]
      have e2 : (r + 1) / b = r / b + 1 := by rw [e, Nat.mul_div_cancel_left _ hb]
      rw [e1, e2, hq', Nat.add_sub_cancel, show q + 1 + 1 - 1 = q + 1 by omega, Nat.pow_succ, Nat.add_zero, ← Nat.mul_assoc, Nat.mul_comm b, Nat.mul_assoc, Nat.mul_comm (2 ^ q)]
      exact Nat.mul_lt_mul_of_pos_right (by omega) hp
theorem rung_lt (f : Format) {a b : Nat} (h : a < b) : rung f a < rung f b := by
  induction b with
  | zero => omega
  | succ b ih =>
    have := rung_step f b
    rcases Nat.lt_or_eq_of_le (show a ≤ b by omega) with h1 | h1
    · have := ih h1; omega
    · rw [h1]; exact this
theorem read_rung (f : Format) {r : Nat} (h : r < f.infRung) : ∃ (m : Nat) (p : Nat), f.read r = .number false m (f.leastPlace + p) ∧ m * 2 ^ p = rung f r := by
  have hs : r < f.signWeight := Nat.lt_trans h f.infRung_lt
  have h1 : r / f.signWeight % 2 = 0 := by rw [Nat.div_eq_of_lt hs]
  have h2 : r % f.signWeight = r := Nat.mod_eq_of_lt hs
  unfold Format.read rung
  simp only [h1, h2]
  by_cases hb : r < f.binade
  · exact ⟨r, 0, by rw [if_pos hb]; simp, by rw [if_pos hb]; simp⟩
  · exact ⟨_, _, by rw [if_neg hb, if_pos h]; rfl, by rw [if_neg hb]⟩
theorem compare_scale {a b c : Nat} (hc : 0 < c) : compare ((a * c : Nat) : Int) ((b * c : Nat) : Int) = compare (a : Int) (b : Int) := by
  rcases Nat.lt_trichotomy a b with h | h | h
  · have := Nat.mul_lt_mul_of_pos_right h hc
    rw [Int.compare_eq_lt.2 (show (a : Int) < b by omega), Int.compare_eq_lt.2 (by omega)]
  · rw [h, Int.compare_eq_eq.2 rfl, Int.compare_eq_eq.2 rfl]
  · have := Nat.mul_lt_mul_of_pos_right h hc
    rw [Int.compare_eq_gt.2 (show (b : Int) < a by omega), Int.compare_eq_gt.2 (by omega)]
theorem compare_rung (f : Format) (a b : Nat) : compare ((rung f a : Nat) : Int) ((rung f b : Nat) : Int) = compare a b := by
  rcases Nat.lt_trichotomy a b with h | h | h
  · have := rung_lt f h
    rw [Int.compare_eq_lt.2 (by omega), Nat.compare_eq_lt.2 h]
  · rw [h, Int.compare_eq_eq.2 rfl, Nat.compare_eq_eq.2 rfl]
  · have := rung_lt f h
    rw [Int.compare_eq_gt.2 (by omega), Nat.compare_eq_gt.2 h]
theorem order_pos (f : Format) {a b : Nat} (ha : a < f.infRung) (hb : b < f.infRung) : f.order a b = some (compare a b) := by
  obtain ⟨m, p, e1, e2⟩ := read_rung f ha
  obtain ⟨n, q, e3, e4⟩ := read_rung f hb
  unfold Format.order
  rw [e1, e3]
  unfold Datum.order
  simp only
  congr 1
  rw [← compare_rung f a b, ← e2, ← e4]
  unfold signed
  simp only [Bool.false_eq_true, if_false, Nat.shiftLeft_eq]
  rcases Nat.le_total p q with h | h
  · have hm : min (f.leastPlace + (p : Int)) (f.leastPlace + (q : Int)) = f.leastPlace + p := by omega
    rw [hm, show (f.leastPlace + (p : Int) - (f.leastPlace + p)).toNat = 0 by omega, show (f.leastPlace + (q : Int) - (f.leastPlace + p)).toNat = q - p by omega, Nat.pow_zero, Nat.mul_one]
    have : n * 2 ^ q = n * 2 ^ (q - p) * 2 ^ p := by rw [Nat.mul_assoc, ← Nat.pow_add]; congr 2; omega
    rw [this]
    exact (compare_scale (Nat.two_pow_pos p)).symm
  · have hm : min (f.leastPlace + (p : Int)) (f.leastPlace + (q : Int)) = f.leastPlace + q := by omega
    rw [hm, show (f.leastPlace + (q : Int) - (f.leastPlace + q)).toNat = 0 by omega, show (f.leastPlace + (p : Int) - (f.leastPlace + q)).toNat = p - q by omega, Nat.pow_zero, Nat.mul_one]
    have : m * 2 ^ p = m * 2 ^ (p - q) * 2 ^ q := by rw [Nat.mul_assoc, ← Nat.pow_add]; congr 2; omega
    rw [this]
    exact (compare_scale (Nat.two_pow_pos q)).symm
theorem order_lt_pos (f : Format) {a b : Nat} (h : a < b) (hb : b < f.infRung) : f.order a b = some .lt := by
  rw [order_pos f (by omega) hb, Nat.compare_eq_lt.2 h]
theorem order_gt_pos (f : Format) {a b : Nat} (h : b < a) (ha : a < f.infRung) : f.order a b = some .gt := by
  rw [order_pos f ha (by omega), Nat.compare_eq_gt.2 h]
theorem order_self_pos (f : Format) {a : Nat} (ha : a < f.infRung) : f.order a a = some .eq := by
  rw [order_pos f ha ha, Nat.compare_eq_eq.2 rfl]
end Go.Proofs.YtlogcnglmdpejaaGreatDoor.Hd
end
section
namespace Go.Proofs.YtlogcnglmdpejaaGreatDoor.Hd
open Go.RowKit Go.Proofs.YtlogcnglmdpejaaGreatDoorW.PrintWords Go.Proofs.YtlogcnglmdpejaaGreatDoorW.PrintLast Go.Proofs.YtlogcnglmdpejaaGreatDoorW.PrintMore Go.Proofs.YtlogcnglmdpejaaGreatDoor.Pq
attribute [local go_sem] max2_int min2_int max_two min_two max_three min_three max_four min_four
set_option linter.unusedVariables false
set_option linter.unusedSimpArgs false
set_option maxRecDepth 100000 in
theorem Twos_up {w : World} {m : Nat} {n : Nat} {q0 : Int} (h0 : 0 < m) (h1 : m < 16777216) (hn : n ≤ 200) (hq0 : 0 ≤ q0 ∧ q0 ≤ 24) :
    Calls Tryz.prog 210 #[.float .f64 (dword m q0), .int .i64 n] w fun e w' => e = .returned (.float .f64 (dword m (q0 + n))) ∧ w = w' := by
  have HM := As_.mk (show 0 < m ∧ m < 16777216 from ⟨h0, h1⟩)
  have hl : m.log2 < 24 := (Nat.log2_lt (by omega)).2 h1
  have HL := As_.mk hl
  have HQ0 := As_.mk hq0
  obtain ⟨x0, hx0⟩ : ∃ x, dword m q0 = x := ⟨_, rfl⟩
  rw [hx0]
  obtain ⟨y0, hy0⟩ : ∃ y, dword m (q0 + n) = y := ⟨_, rfl⟩
  rw [hy0]
  have HX := As_.mk hx0
  have HY := As_.mk hy0
  clear hx0 hy0 h0 h1 hl hq0
  go_enter Tryz.func210, Tryz.ntmps210
  go_wp2_with fail
  go_loop [0, 1] (fun x k => ∃ (c : Nat) (b : Nat), c ≤ n ∧ k = .int .i64 c ∧ x = .float .f64 b ∧ As_ (b = dword m (q0 + ((n : Int) - c)))) (fun _ k => (intOf k).toNat)
  case atStart => exact ⟨n, x0, Nat.le_refl _, rfl, rfl, ⟨by rw [← HX.out]; congr 1; omega⟩⟩
  case round =>
    obtain ⟨c, b, hc, rfl, rfl, HB⟩ := hrel
    rcases Nat.eq_zero_or_pos c with rfl | hp
    · have hz : b = y0 := by
        rw [HB.out, ← HY.out]
        congr 1
      rw [hz]
      clear HB hz
      rw [show (((0 : Nat) : Int)) = 0 from rfl]
      go_wp2_with fail
      go_loop [0, 1] (fun x k => x = .float .f64 y0 ∧ k = .int .i64 0) (fun _ _ => 0)
      case atStart => exact ⟨rfl, rfl⟩
      case round =>
        obtain ⟨rfl, rfl⟩ := hrel
        go_wp2_with fail
        go_ret
        exact ⟨rfl, rfl⟩
    · obtain ⟨c', rfl⟩ : ∃ c', c = c' + 1 := ⟨c - 1, by omega⟩
      obtain ⟨b', hb'⟩ : ∃ b', dword m (q0 + ((n : Int) - c')) = b' := ⟨_, rfl⟩
      have hmul : Go.floatBits .mul .f64 b 4611686018427387904 = some b' := by
        show Ieee.double.mul b 4611686018427387904 = some b'
        rw [HB.out, ← hb', twice_dword HM.out.1 (by have := HM.out.2; omega) (by have := HL.out; have := HQ0.out; omega) (by have := HL.out; have := HQ0.out; omega)]
        congr 2
        omega
      have hm := fun (W : World) => run_float_arith (P := Tryz.prog) W .mul 115 .f64 b 4611686018427387904 b' hmul
      have HB' := As_.mk hb'
      clear hmul hb' HB
      go_wp2_with fail
      go_round
      case rel => exact ⟨c', b', by omega, by go_num, rfl, ⟨HB'.out.symm⟩⟩
      case measure => simp [intOf]
set_option maxRecDepth 100000 in
theorem Twos_down {w : World} {m : Nat} {n : Nat} {q0 : Int} (h0 : 0 < m) (h1 : m < 16777216) (hn : n ≤ 200) (hq0 : 0 ≤ q0 ∧ q0 ≤ 24) :
    Calls Tryz.prog 210 #[.float .f64 (dword m q0), .int .i64 (-(n : Int))] w fun e w' => e = .returned (.float .f64 (dword m (q0 + -(n : Int)))) ∧ w = w' := by
  have HM := As_.mk (show 0 < m ∧ m < 16777216 from ⟨h0, h1⟩)
  have hl : m.log2 < 24 := (Nat.log2_lt (by omega)).2 h1
  have HL := As_.mk hl
  have HQ0 := As_.mk hq0
  obtain ⟨x0, hx0⟩ : ∃ x, dword m q0 = x := ⟨_, rfl⟩
  rw [hx0]
  obtain ⟨y0, hy0⟩ : ∃ y, dword m (q0 + -(n : Int)) = y := ⟨_, rfl⟩
  rw [hy0]
  have HX := As_.mk hx0
  have HY := As_.mk hy0
  obtain ⟨k0, hk0⟩ : ∃ k : Int, -(n : Int) = k := ⟨_, rfl⟩
  rw [hk0]
  have hk1 : k0 ≤ 0 := by omega
  have hk2 : -200 ≤ k0 := by omega
  have HK := As_.mk hk0
  clear hx0 hy0 h0 h1 hl hk0 hq0
  go_enter Tryz.func210, Tryz.ntmps210
  go_wp2_with fail
  go_loop [0, 1] (fun x k => x = .float .f64 x0 ∧ k = .int .i64 k0) (fun _ _ => 0)
  case atStart => exact ⟨rfl, rfl⟩
  case round =>
    obtain ⟨rfl, rfl⟩ := hrel
    have hd : decide ((0 : Int) < k0) = false := decide_eq_false (by omega)
    go_wp2_with fail
    go_loop [0, 1] (fun x k => ∃ (c : Int) (b : Nat), k0 ≤ c ∧ c ≤ 0 ∧ k = .int .i64 c ∧ x = .float .f64 b ∧ As_ (b = dword m (q0 + (k0 - c)))) (fun _ k => (-intOf k).toNat)
    case atStart => exact ⟨k0, x0, by omega, hk1, rfl, rfl, ⟨by rw [← HX.out]; congr 1; omega⟩⟩
    case round =>
      obtain ⟨c, b, hc, hc2, rfl, rfl, HB⟩ := hrel
      by_cases hp : c = 0
      · subst hp
        have hz : b = y0 := by
          rw [HB.out, ← HY.out]
          congr 1
          rw [HK.out]
          omega
        rw [hz]
        clear HB hz
        go_wp2_with fail
        go_ret
        exact ⟨rfl, rfl⟩
      · obtain ⟨b', hb'⟩ : ∃ b', dword m (q0 + (k0 - (c + 1))) = b' := ⟨_, rfl⟩
        have hdiv : Go.floatBits .quo .f64 b 4611686018427387904 = some b' := by
          show Ieee.double.div b 4611686018427387904 = some b'
          rw [HB.out, ← hb', half_dword HM.out.1 (by have := HM.out.2; omega) (by have := HL.out; have := HQ0.out; omega) (by have := HL.out; have := HQ0.out; omega)]
          congr 2
          omega
        have hm := fun (W : World) => run_float_arith (P := Tryz.prog) W .quo 115 .f64 b 4611686018427387904 b' hdiv
        have HB' := As_.mk hb'
        have hlt : c < 0 := by omega
        clear hdiv hb' HB hp
        go_wp2_with fail
        go_round
        case rel => exact ⟨c + 1, b', by omega, by omega, by go_num, rfl, ⟨HB'.out.symm⟩⟩
        case measure => simp [intOf]; omega
theorem Twos_calls {w : World} {m : Nat} {q q0 : Int} (hq0 : 0 ≤ q0 ∧ q0 ≤ 24) (h0 : 0 < m) (h1 : m < 16777216) (hq : -200 ≤ q) (hq2 : q ≤ 200) :
    Calls Tryz.prog 210 #[.float .f64 (dword m q0), .int .i64 q] w fun e w' => e = .returned (.float .f64 (dword m (q0 + q))) ∧ w = w' := by
  rcases Int.le_total 0 q with h | h
  · obtain ⟨n, rfl⟩ := Int.eq_ofNat_of_zero_le h
    exact Twos_up h0 h1 (by omega) hq0
  · obtain ⟨n, hn⟩ := Int.eq_ofNat_of_zero_le (show 0 ≤ -q by omega)
    rw [show q = -(n : Int) by omega]
    exact Twos_down h0 h1 (by omega) hq0
set_option maxRecDepth 100000 in
theorem Twos_zero {w : World} {q : Int} (hq : -200 ≤ q) (hq2 : q ≤ 200) : Calls Tryz.prog 210 #[.float .f64 0, .int .i64 q] w fun e w' => e = .returned (.float .f64 0) ∧ w = w' := by
  have hm : Go.floatBits .mul .f64 0 4611686018427387904 = some 0 := zero_mul_pow (c := 1024) (by decide) (by decide)
  have hd : Go.floatBits .quo .f64 0 4611686018427387904 = some 0 := zero_div_two
  have hm2 := fun (W : World) => run_float_arith (P := Tryz.prog) W .mul 115 .f64 0 4611686018427387904 0 hm
  have hd2 := fun (W : World) => run_float_arith (P := Tryz.prog) W .quo 115 .f64 0 4611686018427387904 0 hd
  clear hm hd
  go_enter Tryz.func210, Tryz.ntmps210
  go_wp2_with fail
  go_loop [0, 1] (fun x k => ∃ c : Int, -200 ≤ c ∧ c ≤ 200 ∧ k = .int .i64 c ∧ x = .float .f64 0) (fun _ k => (intOf k).toNat)
  case atStart => exact ⟨q, hq, hq2, rfl, rfl⟩
  case round =>
    obtain ⟨c, hc, hc2, rfl, rfl⟩ := hrel
    by_cases hp : 0 < c
    · go_wp2_with fail
      go_round
      case rel => exact ⟨c - 1, by omega, by omega, by go_num, rfl⟩
      case measure => simp [intOf]; omega
    · go_wp2_with fail
      go_loop [0, 1] (fun x k => ∃ c : Int, -200 ≤ c ∧ c ≤ 0 ∧ k = .int .i64 c ∧ x = .float .f64 0) (fun _ k => (-intOf k).toNat)
      case atStart => exact ⟨c, hc, by omega, rfl, rfl⟩
      case round =>
        obtain ⟨c, hc, hc2, rfl, rfl⟩ := hrel
        by_cases hp2 : c < 0
        · go_wp2_with fail
          go_round
          case rel => exact ⟨c + 1, by omega, by omega, by go_num, rfl⟩
          case measure => simp [intOf]; omega
        · go_wp2_with fail
          go_ret
          exact ⟨rfl, rfl⟩
theorem andNot_top {b : Nat} (h : b < 9223372036854775808) : Go.bits .andNot .u64 (b : Int) 9223372036854775808 = (b : Int) := by
  rw [show (9223372036854775808 : Int) = ((9223372036854775808 : Nat) : Int) from rfl, u64_andNot_nat _ _ (by omega) (by decide)]
  congr 1
  have e : b &&& (18446744073709551615 - 9223372036854775808) = b % 2 ^ 63 := Nat.and_two_pow_sub_one_eq_mod _ 63
  rw [e]
  omega
theorem andNot_exp {b : Nat} (h : b < 9223372036854775808) : Go.bits .andNot .u64 (b : Int) 9218868437227405312 = ((b % 4503599627370496 : Nat) : Int) := by
  rw [show (9218868437227405312 : Int) = ((9218868437227405312 : Nat) : Int) from rfl, u64_andNot_nat _ _ (by omega) (by decide)]
  congr 1
  show b &&& (2 ^ 63 + (2 ^ 52 - 1)) = b % 2 ^ 52
  refine Nat.eq_of_testBit_eq fun i => ?_
  rw [Nat.testBit_and, Nat.testBit_mod_two_pow]
  by_cases hi : i < 63
  · rw [Nat.testBit_two_pow_add_gt hi, Nat.testBit_two_pow_sub_one, Bool.and_comm]
  · rw [Nat.testBit_lt_two_pow (Nat.lt_of_lt_of_le h (Nat.pow_le_pow_right (n := 2) (by decide) (show 63 ≤ i by omega)))]
    simp
theorem and_exp {E : Nat} (h : E < 2048) : Go.bits .and .i64 (E : Int) 2047 = (E : Int) := by
  have h127 : (BitVec.ofInt 64 2047).toNat = 2 ^ 11 - 1 := by decide
  have key : (BitVec.ofInt 64 (E : Int) &&& BitVec.ofInt 64 2047).toNat = ((E : Int) % ((2 ^ 64 : Nat) : Int)).toNat % 2 ^ 11 := by
    rw [BitVec.toNat_and, BitVec.toNat_ofInt, h127, Nat.and_two_pow_sub_one_eq_mod]
  show IntKind.i64.wrap ((BitVec.ofInt 64 (E : Int) &&& BitVec.ofInt 64 2047).toNat : Nat) = (E : Int)
  rw [key, IntKind.wrap_i64]
  omega
set_option maxRecDepth 100000 in
theorem Abs_pos {w : World} {b : Nat} (h : b < 9223372036854775808) : Calls Tryz.prog 299 #[.float .f64 b] w fun e w' => e = .returned (.float .f64 b) ∧ w = w' := by
  have hf := fun (u : Int) (W : World) => from64 u W
  have hb := fun (W : World) => bits64 b W
  have han := andNot_top h
  go_enter Tryz.func299, Tryz.ntmps299
  go_wp2
  go_ret
  exact ⟨rfl, rfl⟩
set_option maxRecDepth 100000 in
theorem IsNaN_pos {w : World} {b : Nat} (ho : FloatKind.f64.format.order b b = some .eq) : Calls Tryz.prog 292 #[.float .f64 b] w fun e w' => e = .returned (.bool false) ∧ w = w' := by
  have ho2 : (FloatKind.f64.format.order b b != some .eq) = false := by rw [ho]; rfl
  clear ho
  go_enter Tryz.func292, Tryz.ntmps292
  go_wp2
  go_ret
  exact ⟨rfl, rfl⟩
set_option maxRecDepth 100000 in
theorem IsInf_pos {w : World} {b : Nat} (hb : b < 9218868437227405311) : Calls Tryz.prog 291 #[.float .f64 b, .int .i64 0] w fun e w' => e = .returned (.bool false) ∧ w = w' := by
  have ho2 : (FloatKind.f64.format.order b 9218868437227405311 == some .gt) = false := by
    have : FloatKind.f64.format.order b 9218868437227405311 = some .lt := order_lt_pos Ieee.double hb (by decide)
    rw [this]; rfl
  go_enter Tryz.func291, Tryz.ntmps291
  go_wp2_with fail
  refine (Abs_pos (by omega)).mono ?_
  rintro e w1 ⟨rfl, rfl⟩
  go_wp2_with fail
  go_ret
  exact ⟨rfl, rfl⟩
set_option maxRecDepth 100000 in
theorem normalize_pos {w : World} {b : Nat} (h0 : 4503599627370496 < b) (hb : b < 9218868437227405312) : Calls Tryz.prog 293 #[.float .f64 b] w fun e w' => e = .returned (.tuple #[.float .f64 b, .int .i64 0]) ∧ w = w' := by
  have ho2 : (FloatKind.f64.format.order b 4503599627370496 == some .lt) = false := by
    have : FloatKind.f64.format.order b 4503599627370496 = some .gt := order_gt_pos Ieee.double h0 hb
    rw [this]; rfl
  go_enter Tryz.func293, Tryz.ntmps293
  go_wp2_with fail
  refine (Abs_pos (by omega)).mono ?_
  rintro e w1 ⟨rfl, rfl⟩
  go_wp2_with fail
  go_ret2
  exact ⟨rfl, rfl⟩
set_option maxRecDepth 100000 in
theorem ldexp_near {w : World} {x : Nat} {q : Int} (hx1 : 4503599627370496 < x) (hx2 : x < 9218868437227405311) (hq3 : -2000 ≤ q) (hq4 : q ≤ 2000) (hq : -1022 ≤ q + ((x / 4503599627370496 : Nat) : Int) - 1023) (hq2 : q + ((x / 4503599627370496 : Nat) : Int) - 1023 ≤ 1023) : Calls Tryz.prog 282 #[.float .f64 x, .int .i64 q] w fun e w' => e = .returned (.float .f64 ((q + ((x / 4503599627370496 : Nat) : Int)).toNat * 4503599627370496 + x % 4503599627370496)) ∧ w = w' := by
  have hf := fun (u : Int) (W : World) => from64 u W
  have hb := fun (W : World) => bits64 x W
  have h1 : (FloatKind.f64.format.order x 0 == some .eq) = false := by
    have : FloatKind.f64.format.order x 0 = some .gt := order_gt_pos Ieee.double (by omega) (Nat.lt_trans hx2 (by decide))
    rw [this]; rfl
  have ho : FloatKind.f64.format.order x x = some .eq := order_self_pos Ieee.double (Nat.lt_trans hx2 (by decide))
  obtain ⟨e1, he1⟩ : ∃ e1 : Int, q + ((x / 4503599627370496 : Nat) : Int) - 1023 = e1 := ⟨_, rfl⟩
  have hE : wrap64 (q + wrap64 (Go.bits .and .i64 (wrap64 ((x : Int) / 4503599627370496)) 2047 - 1023)) = e1 := by
    have h2 : wrap64 ((x : Int) / 4503599627370496) = ((x / 4503599627370496 : Nat) : Int) := by
      rw [w64 (by omega) (by omega)]; omega
    rw [h2, and_exp (by omega)]
    have h3 : wrap64 (((x / 4503599627370496 : Nat) : Int) - 1023) = ((x / 4503599627370496 : Nat) : Int) - 1023 := w64 (by omega) (by omega)
    rw [h3, w64 (by omega) (by omega), ← he1]
    omega
  have hA : Go.bits .andNot .u64 (x : Int) 9218868437227405312 = ((x % 4503599627370496 : Nat) : Int) := andNot_exp (by omega)
  have he2 : -1022 ≤ e1 := by omega
  have he3 : e1 ≤ 1023 := by omega
  obtain ⟨y, hy⟩ : ∃ y : Nat, (q + ((x / 4503599627370496 : Nat) : Int)).toNat * 4503599627370496 + x % 4503599627370496 = y := ⟨_, rfl⟩
  have hO : Go.bits .or .u64 ((x : Int) % 4503599627370496) ((e1 + 1023) * 4503599627370496) = (y : Int) := by
    have h3 := u64_or_add (x % 4503599627370496) 52 (q + ((x / 4503599627370496 : Nat) : Int)).toNat (by omega) (by omega)
    have h4 : ((2 ^ 52 * (q + ((x / 4503599627370496 : Nat) : Int)).toNat : Nat) : Int) = (e1 + 1023) * 4503599627370496 := by omega
    rw [h4] at h3
    have h5 : ((x % 4503599627370496 : Nat) : Int) = (x : Int) % 4503599627370496 := by omega
    rw [h5] at h3
    rw [h3]
    omega
  have hM := fun (W : World) => run_float_arith (P := Tryz.prog) W .mul 115 .f64 4607182418800017408 y y (show Ieee.double.mul _ _ = _ by rw [← hy]; exact mul_one_double (by omega) (by omega) (by omega))
  rw [hy]
  clear he1 hy
  have HO := As_.mk ho
  have HX := As_.mk (show 4503599627370496 < x ∧ x < 9218868437227405311 from ⟨hx1, hx2⟩)
  clear ho hx1 hx2 hq hq2
  go_enter Tryz.func282, Tryz.ntmps282
  go_wp2_with fail
  refine (IsInf_pos HX.out.2).mono ?_
  rintro e w1 ⟨rfl, rfl⟩
  go_wp2_with fail
  refine (IsNaN_pos HO.out).mono ?_
  rintro e w1 ⟨rfl, rfl⟩
  go_wp2_with fail
  refine (normalize_pos HX.out.1 (by have := HX.out.2; omega)).mono ?_
  rintro e w1 ⟨rfl, rfl⟩
  go_wp2_with fail
  go_ret
  exact ⟨rfl, rfl⟩
theorem ldexp_dword {w : World} {m : Nat} {q q0 : Int} (hq0 : 0 ≤ q0 ∧ q0 ≤ 24) (h0 : 0 < m) (h1 : m < 16777216) (hq : -200 ≤ q) (hq2 : q ≤ 200) : Calls Tryz.prog 282 #[.float .f64 (dword m q0), .int .i64 q] w fun e w' => e = .returned (.float .f64 (dword m (q0 + q))) ∧ w = w' := by
  have hl : m.log2 < 24 := (Nat.log2_lt (by omega)).2 h1
  obtain ⟨f, e, hf, hm⟩ := dword_parts (q := q0) h0 (by omega) (by omega) (by omega)
  obtain ⟨f2, e2, hf2, hm2⟩ := dword_parts (q := q0 + q) h0 (by omega) (by omega) (by omega)
  have hff : f = f2 := by omega
  subst hff
  have hx : ((dword m q0 / 4503599627370496 : Nat) : Int) = q0 + m.log2 + 1023 := by omega
  have hx2 : (dword m q0) % 4503599627370496 = f := by omega
  refine (ldexp_near (x := dword m q0) (by omega) (by omega) (by omega) (by omega) (by omega) (by omega)).mono ?_
  rintro e' w' ⟨rfl, rfl⟩
  refine ⟨?_, rfl⟩
  rw [hx, hx2, e2]
  congr 4
  omega
theorem Ldexp_dword {w : World} {m : Nat} {q q0 : Int} (hq0 : 0 ≤ q0 ∧ q0 ≤ 24) (h0 : 0 < m) (h1 : m < 16777216) (hq : -200 ≤ q) (hq2 : q ≤ 200) : Calls Tryz.prog 265 #[.float .f64 (dword m q0), .int .i64 q] w fun e w' => e = .returned (.float .f64 (dword m (q0 + q))) ∧ w = w' := by
  have HM := As_.mk (show 0 < m ∧ m < 16777216 ∧ -200 ≤ q ∧ q ≤ 200 from ⟨h0, h1, hq, hq2⟩)
  have HQ0 := As_.mk hq0
  clear h0 h1 hq hq2 hq0
  go_enter Tryz.func265, Tryz.ntmps265
  go_wp2_with fail
  refine (ldexp_dword HQ0.out HM.out.1 HM.out.2.1 HM.out.2.2.1 HM.out.2.2.2).mono ?_
  rintro e w1 ⟨rfl, rfl⟩
  go_wp2_with fail
  go_ret
  exact ⟨rfl, rfl⟩
theorem Ldexp_zero {w : World} {q : Int} : Calls Tryz.prog 265 #[.float .f64 0, .int .i64 q] w fun e w' => e = .returned (.float .f64 0) ∧ w = w' := by
  have h1 : (FloatKind.f64.format.order 0 0 == some .eq) = true := by
    have : FloatKind.f64.format.order 0 0 = some .eq := order_self_pos Ieee.double (by decide)
    rw [this]; rfl
  have hc : Calls Tryz.prog 282 #[.float .f64 0, .int .i64 q] w fun e w' => e = .returned (.float .f64 0) ∧ w = w' := by
    go_enter Tryz.func282, Tryz.ntmps282
    go_wp2_with fail
    go_ret
    exact ⟨rfl, rfl⟩
  go_enter Tryz.func265, Tryz.ntmps265
  go_wp2_with fail
  refine hc.mono ?_
  rintro e w1 ⟨rfl, rfl⟩
  go_wp2_with fail
  go_ret
  exact ⟨rfl, rfl⟩
end Go.Proofs.YtlogcnglmdpejaaGreatDoor.Hd
end
section
namespace Go.Proofs.YtlogcnglmdpejaaGreatDoor.Hd
set_option linter.unusedVariables false
def rq (n : Nat) (e : Int) : Int := max ((bits n : Int) + e - 24) (-149)
def rup (n k : Nat) : Nat := if 2 ^ (k - 1) < n % 2 ^ k ∨ (n % 2 ^ k = 2 ^ (k - 1) ∧ n / 2 ^ k % 2 = 1) then 1 else 0
def rm (n : Nat) (e : Int) : Nat := if rq n e ≤ e then n * 2 ^ (e - rq n e).toNat else n / 2 ^ (rq n e - e).toNat + rup n (rq n e - e).toNat
theorem rup_le (n k : Nat) : rup n k ≤ 1 := by unfold rup; split <;> omega
theorem rq_ge (n : Nat) (e : Int) : -149 ≤ rq n e := by unfold rq; omega
theorem rm_exact {n : Nat} {e : Int} (h : rq n e ≤ e) : rm n e = n * 2 ^ (e - rq n e).toNat := if_pos h
theorem rm_near {n : Nat} {e : Int} (h : ¬ rq n e ≤ e) : rm n e = n / 2 ^ (rq n e - e).toNat + rup n (rq n e - e).toNat := if_neg h
theorem rt_lt {n : Nat} {e : Int} (h : ¬ rq n e ≤ e) : n / 2 ^ (rq n e - e).toNat < 16777216 := by
  rw [Nat.div_lt_iff_lt_mul (Nat.two_pow_pos _)]
  have a := lt_bits n
  have : 16777216 * 2 ^ (rq n e - e).toNat = 2 ^ (24 + (rq n e - e).toNat) := by rw [Nat.pow_add]
  rw [this]
  refine Nat.lt_of_lt_of_le a (Nat.pow_le_pow_right (by decide) ?_)
  unfold rq at h ⊢
  omega
theorem rm_exact_lt {n : Nat} {e : Int} (hn : 0 < n) (h : rq n e ≤ e) : 0 < rm n e ∧ rm n e < 16777216 := by
  rw [rm_exact h]
  refine ⟨Nat.mul_pos hn (Nat.two_pow_pos _), ?_⟩
  have a := lt_bits n
  refine Nat.lt_of_lt_of_le (Nat.mul_lt_mul_of_pos_right a (Nat.two_pow_pos _)) ?_
  rw [← Nat.pow_add]
  refine Nat.pow_le_pow_right (n := 2) (by decide) (show _ ≤ 24 from ?_)
  unfold rq at h ⊢
  omega
theorem rm_le {n : Nat} {e : Int} (hn : 0 < n) : rm n e ≤ 16777216 := by
  by_cases h : rq n e ≤ e
  · exact Nat.le_of_lt (rm_exact_lt hn h).2
  · rw [rm_near h]
    have := rt_lt h
    have := rup_le n (rq n e - e).toNat
    omega
theorem bits_ge {n k : Nat} (h : 2 ^ k ≤ n) : k < bits n := by
  rcases Nat.lt_or_ge k (bits n) with h1 | h1
  · exact h1
  · have := bits_le_iff.1 h1
    omega
theorem rm_over {n : Nat} {e : Int} (hn : 0 < n) (h : 128 < (bits n : Int) + e) : 128 < (bits (rm n e) : Int) + rq n e := by
  have hq : rq n e = (bits n : Int) + e - 24 := by unfold rq; omega
  have hb := bits_pos hn
  have hle := bits_le hn
  suffices 2 ^ 23 ≤ rm n e by
    have := bits_ge this
    omega
  by_cases he : rq n e ≤ e
  · rw [rm_exact he]
    refine Nat.le_trans ?_ (Nat.mul_le_mul_right _ hle)
    rw [← Nat.pow_add]
    exact Nat.pow_le_pow_right (by decide) (by omega)
  · rw [rm_near he]
    refine Nat.le_trans ?_ (Nat.le_add_right _ _)
    rw [Nat.le_div_iff_mul_le (Nat.two_pow_pos _), ← Nat.pow_add]
    exact Nat.le_trans (Nat.pow_le_pow_right (by decide) (by omega)) hle
theorem rup_odd {n k : Nat} (h : n % 2 = 1) (hk : 0 < k) : rup n k = if n / 2 ^ (k - 1) % 2 = 1 ∧ (1 < k ∨ n / 2 ^ k % 2 = 1) then 1 else 0 := by
  obtain ⟨j, rfl⟩ : ∃ j, k = j + 1 := ⟨k - 1, by omega⟩
  unfold rup
  rw [Nat.add_sub_cancel]
  have hp := Nat.two_pow_pos j
  have h1 : n % 2 ^ (j + 1) = n % 2 ^ j + 2 ^ j * (n / 2 ^ j % 2) := by
    rw [Nat.pow_succ, Nat.mod_mul]
  have h2 := Nat.mod_lt n hp
  rw [h1]
  rcases Nat.mod_two_eq_zero_or_one (n / 2 ^ j) with h0 | h0
  · rw [h0]
    rw [if_neg (by omega), if_neg (by omega)]
  · rw [h0]
    rcases Nat.eq_zero_or_pos j with rfl | hj
    · have e1 : n % 2 ^ 0 = 0 := Nat.mod_one n
      rw [e1]
      simp
    · have hr : n % 2 ^ j ≠ 0 := by
        intro hz
        have h3 : 2 ∣ n := Nat.dvd_trans (by obtain ⟨i, rfl⟩ : ∃ i, j = i + 1 := ⟨j - 1, by omega⟩; exact ⟨2 ^ i, by rw [Nat.pow_succ, Nat.mul_comm]⟩) (Nat.dvd_of_mod_eq_zero hz)
        omega
      rw [if_pos (by left; omega), if_pos ⟨rfl, .inl (by omega)⟩]
theorem odd_rest {n k : Nat} (h : n % 2 = 1) (hk : 0 < k) : 0 < n % 2 ^ k := by
  rcases Nat.eq_zero_or_pos (n % 2 ^ k) with hz | hz
  · have h3 : 2 ∣ n := Nat.dvd_trans (by obtain ⟨i, rfl⟩ : ∃ i, k = i + 1 := ⟨k - 1, by omega⟩; exact ⟨2 ^ i, by rw [Nat.pow_succ, Nat.mul_comm]⟩) (Nat.dvd_of_mod_eq_zero hz)
    omega
  · exact hz
end Go.Proofs.YtlogcnglmdpejaaGreatDoor.Hd
end
section
namespace Go.Proofs.YtlogcnglmdpejaaGreatDoor.Hd
open Go.RowKit Go.Proofs.YtlogcnglmdpejaaGreatDoorW.PrintWords Go.Proofs.YtlogcnglmdpejaaGreatDoorW.PrintLast Go.Proofs.YtlogcnglmdpejaaGreatDoorW.PrintMore Go.Proofs.YtlogcnglmdpejaaGreatDoor.Pq
attribute [local go_sem] max2_int min2_int max_two min_two max_three min_three max_four min_four
set_option linter.unusedVariables false
set_option linter.unusedSimpArgs false
structure RdS (w0 : World) (N g6 gp : Nat) (z e sgn : Int) (w : World) : Prop where
  num : w.heap[N]? = some (.cells #[.pointer (some ⟨gp, 0, none⟩), .int .i64 e] 103 (0, 0))
  mode : w.heap[N + 1]? = some (.cells #[.int .i64 0] 2 (0, 0))
  sgn : w.heap[g6]? = some (.cells #[.int .i64 sgn] 3 (0, 0))
  big : Big w gp z
  below : Below w0.heap.size w0 w
  old : gp < w0.heap.size ∧ w0.heap.size = N ∧ N + 1 < g6
theorem RdS.keep {w0 w w' : World} {N g6 gp : Nat} {z e sgn : Int} (h : RdS w0 N g6 gp z e sgn w) (hb : Below w.heap.size w w') : RdS w0 N g6 gp z e sgn w' :=
  ⟨(hb.block N (heap_lt h.num)).trans h.num, (hb.block (N + 1) (heap_lt h.mode)).trans h.mode, (hb.block g6 (heap_lt h.sgn)).trans h.sgn, h.big.below hb, h.below.trans (hb.mono h.below.size), h.old⟩
theorem RdS.grown {w0 w w' : World} {N g6 gp g : Nat} {z e sgn : Int} (h : RdS w0 N g6 gp z e sgn w) (hi : Ic w g) (hB : w0.heap.size ≤ g) (hg : w.grownBy w' (some g)) : RdS w0 N g6 gp z e sgn w' := by
  obtain ⟨b, A, n, c, hi2⟩ := hi
  have h1 : g ≠ N := by rintro rfl; rw [h.num] at hi2; injection hi2 with hi2; injection hi2 with _ h2; cases h2
  have h2 : g ≠ N + 1 := by rintro rfl; rw [h.mode] at hi2; injection hi2 with hi2; injection hi2 with _ h2; cases h2
  have h3 : g ≠ g6 := by rintro rfl; rw [h.sgn] at hi2; injection hi2 with hi2; injection hi2 with _ h2; cases h2
  exact ⟨(hg.block N (heap_lt h.num) (by simp; omega)).trans h.num, (hg.block (N + 1) (heap_lt h.mode) (by simp; omega)).trans h.mode, (hg.block g6 (heap_lt h.sgn) (by simp; omega)).trans h.sgn,
    h.big.grown ⟨b, A, n, c, hi2⟩ (by have := h.old.1; omega) hg, h.below.grown hg h.below.size (by intro k hk; injection hk with hk; omega), h.old⟩
def fz (z : Int) (e : Int) : Nat := if z < 0 then 2147483648 + sword (rm z.natAbs e) (rq z.natAbs e) else sword (rm z.natAbs e) (rq z.natAbs e)
def RR (z e : Int) (x : Nat) (fl : Int) : Prop :=
  if z = 0 then x = 0 ∧ fl = 0 else if 128 < (bits (rm z.natAbs e) : Int) + rq z.natAbs e then fl ≠ 0 else if rq z.natAbs e ≤ e then x = fz z e ∧ fl = 0 else fl ≠ 0
def RPost (z e : Int) (w : World) (en : Ending) (w' : World) : Prop := ∃ x fl, en = .returned (.tuple #[.float .f32 x, .int .i64 fl]) ∧ RR z e x fl ∧ Below w.heap.size w w'
set_option maxRecDepth 100000 in
theorem over_calls {w : World} {a b : Addr} {s : Int} (hm : w.cell? a = some (.int .i64 0)) (hs : w.cell? b = some (.int .i64 s)) :
    Calls Tryz.prog 260 #[.pointer (some a), .pointer (some b)] w fun e w' => (∃ x, e = .returned (.tuple #[.float .f32 x, .int .i64 5])) ∧ w = w' := by
  go_enter Tryz.func260, Tryz.ntmps260
  go_wp2_with fail
  refine (infinite_calls s).mono ?_
  rintro e w1 ⟨⟨x, rfl⟩, rfl⟩
  go_wp2_with fail
  go_ret2
  exact ⟨⟨x, rfl⟩, rfl⟩
set_option maxHeartbeats 1000000 in
theorem round_zero {w : World} {g : Nat} {e : Int} (h : Big w g 0) : Calls Tryz.prog 227 #[.agg #[.pointer (some ⟨g, 0, none⟩), .int .i64 e], .int .i64 0] w (RPost 0 e w) := by
  have H := As_.mk h
  clear h
  go_enter Tryz.func227, Tryz.ntmps227
  go_wp2_with fail
  refine (sign_calls ((H.out.below (ba_ (Below.refl _ _) _)).below (ba_ (Below.refl _ _) _))).mono ?_
  rintro e1 w1 ⟨rfl, hb⟩
  have HB := As_.mk hb
  have hcm : cm 0 0 = 0 := rfl
  clear hb
  go_wp2_with fail
  go_ret2
  exact ⟨0, 0, rfl, ⟨rfl, rfl⟩, ((ba_ (Below.refl w.heap.size w) _).alloc (by simp) _).trans (HB.out.mono (by simp; omega))⟩
end Go.Proofs.YtlogcnglmdpejaaGreatDoor.Hd
end
