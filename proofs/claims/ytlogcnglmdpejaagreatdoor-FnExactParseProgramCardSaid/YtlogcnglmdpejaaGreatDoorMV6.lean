/- Part 6 of the proof of the card of FnExactV: walks of the functions and plain facts on them. -/
import Derived.Test.YtlogcnglmdpejaaGreatDoorMV5
import Derived.Test.YtlogcnglmdpejaaGreatDoorMV3
section
namespace Go.Proofs.YtlogcnglmdpejaaGreatDoor.Hd
open Go.RowKit Go.Proofs.YtlogcnglmdpejaaGreatDoorW.PrintWords Go.Proofs.YtlogcnglmdpejaaGreatDoorW.PrintMore Go.Proofs.YtlogcnglmdpejaaGreatDoor.Pq
set_option linter.unusedVariables false
set_option linter.unusedSimpArgs false
theorem rightNum (B t P d R : Nat) (hB : B = P * t) (hP : 0 < P) (ht : 0 < t) (hd : d < B) : (d + B * R) / P = (d + B * (R % B)) / P % B + B * (R / P) := by
  have h1 : ∀ r, (d + B * r) / P = d / P + t * r := fun r => by rw [hB, Nat.mul_assoc, Nat.add_mul_div_left _ _ hP]
  rw [h1, h1]
  have hdt : d / P < t := by rw [Nat.div_lt_iff_lt_mul hP, Nat.mul_comm, ← hB]; exact hd
  have h2 : ∀ r, t * r = B * (r / P) + t * (r % P) := fun r => by
    conv => lhs; rw [← Nat.div_add_mod r P]
    rw [Nat.mul_add, ← Nat.mul_assoc, hB, Nat.mul_comm t P]
  have h3 : R % B % P = R % P := by rw [hB]; exact Nat.mod_mul_right_mod _ _ _
  have h4 : d / P + t * (R % P) < B := by
    have h5 : R % P + 1 ≤ P := Nat.mod_lt _ hP
    have h6 := Nat.mul_le_mul_left t h5
    rw [Nat.mul_add, Nat.mul_one, Nat.mul_comm t P, ← hB] at h6
    omega
  rw [h2 R, h2 (R % B), h3, Nat.add_left_comm (d / P), Nat.add_left_comm (d / P), Nat.add_comm (B * (R % B / P)), Nat.add_mul_mod_self_left, Nat.mod_eq_of_lt h4, Nat.add_comm]
theorem rightDig {d R s : Nat} (hs : s < 32) (hd : d < 4294967296) :
    ∃ v : Nat, v < 4294967296 ∧ (d + 4294967296 * R) / 2 ^ s = v + 4294967296 * (R / 2 ^ s) ∧
      shr .u64 (Go.bits .or .u64 (d : Int) (((R % 4294967296 : Nat) : Int) * 4294967296)) (s : Int) % 4294967296 = (v : Int) ∧ (R = 0 → shr .u64 (d : Int) (s : Int) % 4294967296 = (v : Int)) := by
  have hp : 4294967296 = 2 ^ s * 2 ^ (32 - s) := by rw [← Nat.pow_add, show s + (32 - s) = 32 by omega]
  have h := rightNum 4294967296 (2 ^ (32 - s)) (2 ^ s) d R hp (Nat.two_pow_pos _) (Nat.two_pow_pos _) hd
  have hRl : R % 4294967296 < 4294967296 := Nat.mod_lt _ (by omega)
  refine ⟨(d + 4294967296 * (R % 4294967296)) / 2 ^ s % 4294967296, Nat.mod_lt _ (by omega), h, ?_, ?_⟩
  · have e : ((R % 4294967296 : Nat) : Int) * 4294967296 = ((2 ^ 32 * (R % 4294967296) : Nat) : Int) := by
      rw [Int.natCast_mul, Int.mul_comm]
      rfl
    rw [e, u64_or_add d 32 (R % 4294967296) (by simpa using hd) (by clear h hp; omega), shr_eq _ _ (by omega)]
    rfl
  · rintro rfl
    rw [shr_eq _ _ (by omega), Nat.zero_mod, Nat.mul_zero, Nat.add_zero]
    rfl
theorem magRight_l0 (m : Nat) : ∀ (k a1 i : Nat) (a x : List Int), a.length - i = m → i ≤ a.length → x.length = a.length → a1 ≤ 1000000 → a.length ≤ 100000 → 2000000 ≤ k → Dg 4294967296 a → Dg 4294967296 x →
    impl_magRight.l0 (k + m) a (a1 : Int) x a (a.length : Int) (i : Int) = some (D (vl 4294967296 (x.take i) + (4294967296 : Int) ^ i * (((vl 4294967296 (a.drop i)).toNat / 2 ^ (a1 % 32) : Nat) : Int)).toNat) := by
  induction m with
  | zero =>
    intro k a1 i a x hm hi hx ha1 hal hk ha hxd
    obtain rfl : i = a.length := by omega
    obtain ⟨k, rfl⟩ : ∃ m, k = m + 1 := ⟨k - 1, by omega⟩
    rw [Nat.add_zero, impl_magRight.l0, if_neg (by omega), magTrim_f (by omega) (by omega) hxd]
    simp only [Option.bind_some]
    rw [List.drop_of_length_le (Nat.le_refl _), vl_nil, List.take_of_length_le (by omega)]
    simp
  | succ m ih =>
    intro k a1 i a x hm hi hx ha1 hal hk ha hxd
    have hlt : i < a.length := by omega
    obtain ⟨q, hq⟩ : ∃ q, k + m = q := ⟨_, rfl⟩
    have hsm : a1 % 32 < 32 := Nat.mod_lt _ (by omega)
    obtain ⟨ha0, ha1'⟩ := ha.getD (by omega) i
    obtain ⟨d, hd⟩ := Int.eq_ofNat_of_zero_le ha0
    have hdl : d < 4294967296 := by omega
    obtain ⟨R, hR⟩ := Int.eq_ofNat_of_zero_le (vl_nonneg (ha.drop (i + 1)))
    obtain ⟨v, hv, hnum, e1, e2⟩ := rightDig (d := d) (R := R) (s := a1 % 32) hsm hdl
    have hstep : vl 4294967296 ((x.set i (v : Int)).take (i + 1)) + (4294967296 : Int) ^ (i + 1) * (((vl 4294967296 (a.drop (i + 1))).toNat / 2 ^ (a1 % 32) : Nat) : Int) = vl 4294967296 (x.take i) + (4294967296 : Int) ^ i * (((vl 4294967296 (a.drop i)).toNat / 2 ^ (a1 % 32) : Nat) : Int) := by
      rw [take_set_succ x i v (by clear hnum; omega), vl_snoc, List.length_take, Nat.min_eq_left (by clear hnum; omega), drop_getD a i hlt, vl_cons, hd, hR, Int.pow_succ]
      refine step_id _ _ _ _ _ _ ?_
      have e3 : ((d : Int) + 4294967296 * (R : Int)).toNat = d + 4294967296 * R := by omega
      rw [e3, hnum, Int.toNat_natCast]
      generalize R / 2 ^ (a1 % 32) = z
      omega
    have HS := As_.mk hstep
    have HN := As_.mk hnum
    clear hstep hnum
    rw [show k + (m + 1) = q + 1 by omega, impl_magRight.l0, if_pos (by omega), if_pos (by omega), if_pos (by omega), tmod32, w64s i (by omega), rd_getD, u64w (x := a.getD i 0) (by omega) (by omega), hd, Int.toNat_natCast]
    by_cases hn : i + 1 < a.length
    · have hd2 : a.getD (i + 1) 0 = ((R % 4294967296 : Nat) : Int) := by
        have h3 := drop_getD a (i + 1) hn
        obtain ⟨hb0, hb1⟩ := ha.getD (by omega) (i + 1)
        rw [h3, vl_cons] at hR
        generalize a.getD (i + 1) 0 = y at hR hb0 hb1 ⊢
        generalize vl 4294967296 (a.drop (i + 1 + 1)) = z at hR
        omega
      rw [if_pos (by omega), if_pos (by omega), if_pos (by omega), if_pos (by omega), rd_getD, hd2, u64w (x := ((R % 4294967296 : Nat) : Int)) (by omega) (by omega), u64w (x := ((R % 4294967296 : Nat) : Int) * 4294967296) (by omega) (by omega), e1, ← hq]
      rw [ih k a1 (i + 1) a (x.set i v) (by omega) (by omega) (by simpa using hx) ha1 hal hk ha (hxd.set i (by omega) (by omega)), HS.out]
    · have hR0 : R = 0 := by
        rw [List.drop_of_length_le (by omega), vl_nil] at hR
        omega
      rw [if_neg (by omega), if_pos (by omega), if_pos (by omega), e2 hR0, ← hq]
      rw [ih k a1 (i + 1) a (x.set i v) (by omega) (by omega) (by simpa using hx) ha1 hal hk ha (hxd.set i (by omega) (by omega)), HS.out]
theorem pow_splitN (a1 : Nat) : 2 ^ a1 = 4294967296 ^ (a1 / 32) * 2 ^ (a1 % 32) := by
  have h : 4294967296 = 2 ^ 32 := rfl
  rw [h, ← Nat.pow_mul, ← Nat.pow_add, Nat.div_add_mod]
theorem vl_drop {a : List Int} (ha : Dg 4294967296 a) (q : Nat) (hq : q ≤ a.length) : (vl 4294967296 (a.drop q)).toNat = (vl 4294967296 a).toNat / 4294967296 ^ q := by
  have h1 := vl_split 4294967296 a q hq
  have h2 := vl_take_lt ha q hq
  have h3 := vl_nonneg (ha.take q)
  have h4 := vl_nonneg (ha.drop q)
  obtain ⟨u, hu⟩ := Int.eq_ofNat_of_zero_le h3
  obtain ⟨r, hr⟩ := Int.eq_ofNat_of_zero_le h4
  rw [hr, Int.toNat_natCast]
  rw [hu, hr] at h1
  have hp : (4294967296 : Int) ^ q = ((4294967296 ^ q : Nat) : Int) := by rw [Int.natCast_pow]; rfl
  rw [hu, hp] at h2
  rw [hp, ← Int.natCast_mul, ← Int.natCast_add] at h1
  rw [h1, Int.toNat_natCast, Nat.add_mul_div_left _ _ (Nat.pow_pos (by decide)), Nat.div_eq_of_lt (Int.ofNat_lt.1 h2), Nat.zero_add]
theorem magRight_f {k m a1 : Nat} (hm : (D m).length ≤ 100000) (ha1 : a1 ≤ 1000000) (hk : 4000000 ≤ k) : impl_magRight.f k (D m) (a1 : Int) = some (D (m / 2 ^ a1)) := by
  unfold impl_magRight.f
  rw [u64_div32' a1 ha1, u64w (x := ((D m).length : Int)) (by omega) (by omega)]
  by_cases h0 : (D m).length ≤ a1 / 32
  · have hz : m / 2 ^ a1 = 0 := by
      rw [Nat.div_eq_zero_iff_lt (Nat.two_pow_pos _), pow_splitN]
      have h1 := D_lt m
      have h2 : 4294967296 ^ (D m).length ≤ 4294967296 ^ (a1 / 32) := Nat.pow_le_pow_right (by decide) h0
      exact Nat.lt_of_lt_of_le h1 (Nat.le_trans h2 (Nat.le_mul_of_pos_right _ (Nat.two_pow_pos _)))
    rw [if_pos (by omega), hz, D_zero]
  · have hdl : ((D m).drop (a1 / 32)).length ≤ 100000 := by rw [List.length_drop]; omega
    have hdd : Dg 4294967296 ((D m).drop (a1 / 32)) := (D_dg m).drop _
    have hv := vl_drop (D_dg m) (a1 / 32) (by omega)
    rw [D_vl, Int.toNat_natCast] at hv
    have HV := As_.mk hv
    clear hv
    rw [if_neg (by omega), if_pos (by omega), if_pos (by omega), Int.toNat_natCast]
    generalize (D m).drop (a1 / 32) = y at hdl hdd HV ⊢
    rw [if_pos (by omega), Int.toNat_natCast, if_pos (by omega)]
    have h := magRight_l0 y.length (k - y.length) a1 0 y (List.replicate y.length 0) (by omega) (by omega) (by simp) ha1 hdl (by omega) hdd (Dg.replicate (by omega) _)
    rw [show k - y.length + y.length = k by omega, show ((0 : Nat) : Int) = 0 from rfl] at h
    rw [h, List.take_zero, vl_nil, List.drop_zero, HV.out, Nat.div_div_eq_div_mul, ← pow_splitN]
    rw [Int.pow_zero, Int.one_mul, Int.zero_add, Int.toNat_natCast]
end Go.Proofs.YtlogcnglmdpejaaGreatDoor.Hd
end
section
namespace Go.Proofs.YtlogcnglmdpejaaGreatDoor.Pq
open Go.RowKit Go.Proofs.YtlogcnglmdpejaaGreatDoorW.PrintWords Go.Proofs.YtlogcnglmdpejaaGreatDoorW.PrintLast Go.Proofs.YtlogcnglmdpejaaGreatDoorW.PrintMore
attribute [local go_sem] max2_int min2_int max_two min_two max_three min_three max_four min_four
set_option linter.unusedVariables false
set_option linter.unusedSimpArgs false
def impl_magAdd.l0 : Nat → List Int → List Int → Int → List Int → Int → Int → Option (List Int)
  | 0, _, _, _, _, _, _ => none
  | k + 1, x1, x5, x6, x14, x15, x16 => if x16 < x15 then (if 0 ≤ x16 then (if x16 < (x14.length : Int) then (if x16 < (x1.length : Int) then (if x16 < (x5.length : Int) then (impl_magAdd.l0 k x1 (x5.set (x16 : Int).toNat ((IntKind.u64.wrap ((IntKind.u64.wrap (x6 + (IntKind.u64.wrap (rd x14 x16)))) + (IntKind.u64.wrap (rd x1 x16)))) % 4294967296)) ((IntKind.u64.wrap ((IntKind.u64.wrap (x6 + (IntKind.u64.wrap (rd x14 x16)))) + (IntKind.u64.wrap (rd x1 x16)))) / 4294967296) x14 x15 (wrap64 (x16 + 1))) else (none)) else (if x16 < (x5.length : Int) then (impl_magAdd.l0 k x1 (x5.set (x16 : Int).toNat ((IntKind.u64.wrap (x6 + (IntKind.u64.wrap (rd x14 x16)))) % 4294967296)) ((IntKind.u64.wrap (x6 + (IntKind.u64.wrap (rd x14 x16)))) / 4294967296) x14 x15 (wrap64 (x16 + 1))) else (none))) else (none)) else (none)) else (if (x14.length : Int) < (x5.length : Int) then ((impl_magTrim.f k (x5.set x14.length (x6 % 4294967296))).bind fun t371 => (some t371)) else (none))
def impl_magAdd.f0 (k : Nat) (l0 : List Int) (l1 : List Int) : Option (List Int) := if 0 ≤ (wrap64 ((l0.length : Int) + 1)) then (if ((wrap64 ((l0.length : Int) + 1)) : Int).toNat ≤ 70368744177664 then (impl_magAdd.l0 k l1 (List.replicate ((wrap64 ((l0.length : Int) + 1)) : Int).toNat 0) 0 l0 (l0.length : Int) 0) else (none)) else (none)
set_option maxHeartbeats 8000000 in
set_option maxRecDepth 100000 in
theorem impl_magAdd.callsA (k : Nat) (A0 : Option Addr) (c0 : Nat) (l0 : List Int) (A1 : Option Addr) (c1 : Nat) (l1 : List Int) (r : List Int) (w : World) (hr0 : Kd.C (Kd.int .u32) w A0 l0.length l0) (hc0 : l0.length ≤ c0) (hr1 : Kd.C (Kd.int .u32) w A1 l1.length l1) (hc1 : l1.length ≤ c1) (hlt : ¬ l0.length < l1.length) (h : impl_magAdd.f0 k l0 l1 = some r) :
    Calls Tryz.prog 179 #[.slice A0 l0.length c0, .slice A1 l1.length c1] w fun e w' => ∃ v0_ : Value, e = .returned (v0_) ∧ Kd.V (Kd.int .u32) 202 w' w.heap.size (fun k_ => (w.heap.size ≤ k_)) v0_ r ∧ Below w.heap.size w w' := by
  have HR0 := As_.mk hr0
  have HC0 := As_.mk hc0
  clear hr0 hc0
  have HR1 := As_.mk hr1
  have HC1 := As_.mk hc1
  clear hr1 hc1
  have hltb : decide (l0.length < l1.length) = false := by simpa using hlt
  have hltb2 : decide ((l0.length : Int) < (l1.length : Int)) = false := by simpa using hlt
  clear hlt
  have HB := As_.mk (Below.refl w.heap.size w)
  have H : (if 0 ≤ (wrap64 ((l0.length : Int) + 1)) then (if ((wrap64 ((l0.length : Int) + 1)) : Int).toNat ≤ 70368744177664 then (impl_magAdd.l0 k l1 (List.replicate ((wrap64 ((l0.length : Int) + 1)) : Int).toNat 0) 0 l0 (l0.length : Int) 0) else (none)) else (none)) = some r := h
  clear h
  by_cases c3 : 0 ≤ (wrap64 ((l0.length : Int) + 1))
  · rw [if_pos c3] at H
    have c3b1 : decide (0 ≤ (wrap64 ((l0.length : Int) + 1))) = true := decide_eq_true c3
    clear c3
    by_cases c4 : ((wrap64 ((l0.length : Int) + 1)) : Int).toNat ≤ 70368744177664
    · rw [if_pos c4] at H
      have c4b1 : decide (((wrap64 ((l0.length : Int) + 1)) : Int).toNat ≤ 70368744177664) = true := decide_eq_true c4
      clear c4
      obtain ⟨y364, hy364⟩ : ∃ y_ : List Int, y_ = (List.replicate ((wrap64 ((l0.length : Int) + 1)) : Int).toNat 0) := ⟨_, rfl⟩
      rw [← hy364] at H
      have Ny364 := As_.mk hy364
      clear hy364
      have H' := As_.mk H
      clear H
      go_enter Tryz.func179, Tryz.ntmps179
      go_wp2_with (first | ((with_reducible refine gate_dst (N := 19) rfl ?_); refine Kd.R_make (Kd.int .u32) _ 202 rfl (N := 19) rfl 156 _ _ rfl ((wrap64 ((l0.length : Int) + 1)) : Int) rfl rfl Tryz.underlying156 (.int .u32 0) 4 info202 rfl (by decide) (by omega) 0 (ok := fun _ => True) (okp := fun _ => True) rfl (fun _ hk => hk) trivial (of_decide_eq_true (by first | (with_reducible assumption) | assumption)) (Nat.le_trans (Nat.mul_le_mul_right _ (of_decide_eq_true (by first | (with_reducible assumption) | assumption) : ((wrap64 ((l0.length : Int) + 1)) : Int).toNat ≤ 70368744177664)) (by omega)) (Below.refl _ _) (Nat.le_refl _) ?_; intro v365 w5 ho6 hb hg_ hnew_; clear hg_ hnew_; rw [← Ny364.out] at ho6; have n0_ := As_.mk (Kd.R_lower (Kd.R_newM (M := fun k_ => (w.heap.size ≤ k_)) ho6 (bz_ (by repeat (first | (with_reducible first | exact HB.out | apply ba_ | apply pN_ | apply bd_) | exact HB.out))) (fun k_ h_ => h_)) (bz_ (by repeat (first | (with_reducible first | exact HB.out | apply ba_ | apply pN_ | apply bd_) | exact HB.out)))); have n1_ := As_.mk (bp_ (by repeat (first | (with_reducible first | exact HB.out | apply ba_ | apply pN_ | apply bd_) | exact HB.out)) hb); clear HB; have HO366 := n0_; have HB := n1_; clear n0_ n1_; clear hb ho6))
      go_loopg [6, 22] k (fun kq v6 v22 w' => ∃ (x5_1 : List Int) (x6_1 : Int) (x16_1 : Int), v6 = .int .u64 x6_1 ∧ v22 = .int .i64 x16_1 ∧ As_ (impl_magAdd.l0 kq l1 x5_1 x6_1 l0 (l0.length : Int) x16_1 = some r) ∧ As_ (kq ≤ k) ∧ As_ (Kd.R (Kd.int .u32) 202 w' w.heap.size (fun k_ => (w.heap.size ≤ k_)) v365 x5_1) ∧ As_ (Below w.heap.size w w'))
      case atStart => exact ⟨y364, 0, 0, (by first | rfl | (simp; done) | (simp [*]; done)), (by first | rfl | (simp; done) | (simp [*]; done)), H', ⟨Nat.le_refl _⟩, ⟨by (with_reducible repeat (first | apply Kd.R_alloc | apply Kd.R_drewN | apply Kd.R_drew)); exact Kd.R_mono HO366.out (fun _ hk => hk.1)⟩, ⟨by repeat (first | (with_reducible first | exact HB.out | apply ba_ | apply pN_ | apply bd_) | exact HB.out)⟩⟩
      case round =>
        clear H'
        clear c3b1 c4b1 Ny364
        obtain ⟨x5_1, x6_1, x16_1, rfl, rfl, HA, HK1, HO_5, HB⟩ := hrel
        cases gk with
        | zero => exact absurd HA.out (by simp [impl_magAdd.l0])
        | succ k1 =>
          have H := HA.out
          clear HA
          simp only [impl_magAdd.l0] at H
          by_cases c7 : x16_1 < (l0.length : Int)
          · rw [if_pos c7] at H
            have c7b0 : decide (x16_1 < (l0.length : Int)) = true := decide_eq_true c7
            clear c7
            by_cases c8 : 0 ≤ x16_1
            · rw [if_pos c8] at H
              have c8b0 : decide (0 ≤ x16_1) = true := decide_eq_true c8
              clear c8
              by_cases c9 : x16_1 < (l0.length : Int)
              · rw [if_pos c9] at H
                have c9b0 : decide (x16_1 < (l0.length : Int)) = true := decide_eq_true c9
                clear c9
                by_cases c10 : x16_1 < (l1.length : Int)
                · rw [if_pos c10] at H
                  have c10b0 : decide (x16_1 < (l1.length : Int)) = true := decide_eq_true c10
                  clear c10
                  by_cases c11 : x16_1 < (x5_1.length : Int)
                  · rw [if_pos c11] at H
                    have c11b0 : decide (x16_1 < (x5_1.length : Int)) = true := decide_eq_true c11
                    clear c11
                    obtain ⟨y369, hy369⟩ : ∃ y_ : List Int, y_ = (x5_1.set (x16_1 : Int).toNat ((IntKind.u64.wrap ((IntKind.u64.wrap (x6_1 + (IntKind.u64.wrap (rd l0 x16_1)))) + (IntKind.u64.wrap (rd l1 x16_1)))) % 4294967296)) := ⟨_, rfl⟩
                    rw [← hy369] at H
                    have Ny369 := As_.mk hy369
                    clear hy369
                    have H' := As_.mk H
                    clear H
                    have p367 : 0 ≤ (x16_1 : Int) := of_decide_eq_true (by first | (with_reducible assumption) | assumption)
                    have q367 : x16_1 < (l0.length : Int) := of_decide_eq_true (by first | (with_reducible assumption) | assumption)
                    obtain ⟨ad367, e367, hx367_0⟩ := Kd.at_int HR0.out x16_1 p367 q367
                    cases e367
                    replace hx367_0 := (HB.out.cell (World.block_lt_of_cell? w _ hx367_0)).trans hx367_0
                    replace p367 := eq_true p367
                    replace q367 := eq_true q367
                    have p368 : 0 ≤ (x16_1 : Int) := of_decide_eq_true (by first | (with_reducible assumption) | assumption)
                    have q368 : x16_1 < (l1.length : Int) := of_decide_eq_true (by first | (with_reducible assumption) | assumption)
                    obtain ⟨ad368, e368, hx368_0⟩ := Kd.at_int HR1.out x16_1 p368 q368
                    cases e368
                    replace hx368_0 := (HB.out.cell (World.block_lt_of_cell? w _ hx368_0)).trans hx368_0
                    replace p368 := eq_true p368
                    replace q368 := eq_true q368
                    have p12 : 0 ≤ (x16_1 : Int) := of_decide_eq_true (by first | (with_reducible assumption) | assumption)
                    have q12 : (x16_1 : Int) < ((x5_1.length : Int) : Int) := of_decide_eq_true (by first | (with_reducible assumption) | assumption)
                    obtain ⟨go12, co12, eo12, gb12, gl12, cl12, HG12⟩ := Kd.R_form HO_5.out (by omega)
                    (first | cases eo12 | (injection eo12 with ea_ en_ ec_; (first | subst ea_ | (injection ea_ with ea_; subst ea_)); subst ec_; clear en_))
                    have GB12 := As_.mk gb12
                    have GG12 := As_.mk HG12
                    clear gb12 gl12 HG12
                    obtain ⟨hx12_0, hf12_0⟩ := Kd.R_celln 0 HO_5.out (x16_1 : Int) p12 q12
                    replace p12 := eq_true p12
                    replace q12 := eq_true q12
                    have HP13 := Kd.R_putg HO_5.out (x16_1 : Int) ((IntKind.u64.wrap ((IntKind.u64.wrap (x6_1 + (IntKind.u64.wrap (rd l0 x16_1)))) + (IntKind.u64.wrap (rd l1 x16_1)))) % 4294967296)
                    go_wp2_with (first | ((with_reducible refine gate_store (t := 202) (p := 46) rfl ?_); refine store_event (t := 202) (p := 46) (v := ?vo_w14) (w1 := (wr.setCell ⟨go12, (x16_1 : Int).toNat, none⟩ (.int .u32 ((IntKind.u64.wrap ((IntKind.u64.wrap (x6_1 + (IntKind.u64.wrap (rd l0 x16_1)))) + (IntKind.u64.wrap (rd l1 x16_1)))) % 4294967296)))) ?hg ?ho ?hn ?hr ?_; (case ho => rfl); (case hg => rfl); (case hn => rfl); (case hr => first | (go_simp; done) | (go_simp; rfl)); intro w14 hw; have hg : wr.grownBy w14 (some go12) := (by rw [hw]; exact HP13.2); have hp_ : Kd.R (Kd.int .u32) 202 w14 w.heap.size (fun k_ => (w.heap.size ≤ k_)) (.slice (some ⟨go12, 0, none⟩) x5_1.length co12) y369 := (by rw [hw, Ny369.out]; exact HP13.1); clear HP13; have n0_ := As_.mk (hp_); have n1_ := As_.mk ((by rw [hw]; exact bs_ (HB.out) GB12.out : Below w.heap.size w w14)); clear HO_5; clear HB; have HO_5 := n0_; have HB := n1_; clear n0_ n1_; clear hg hw hp_))
                    go_roundg k1
                    case measure => have := HK1.out; omega
                    case rel => exact ⟨y369, ((IntKind.u64.wrap ((IntKind.u64.wrap (x6_1 + (IntKind.u64.wrap (rd l0 x16_1)))) + (IntKind.u64.wrap (rd l1 x16_1)))) / 4294967296), (wrap64 (x16_1 + 1)), (by first | rfl | (simp; done) | (simp [*]; done)), (by first | rfl | (simp; done) | (simp [*]; done)), H', ⟨by have := HK1.out; omega⟩, ⟨by (with_reducible repeat (first | apply Kd.R_alloc | apply Kd.R_drewN | apply Kd.R_drew)); exact HO_5.out⟩, ⟨by repeat (first | (with_reducible first | exact HB.out | apply ba_ | apply pN_ | apply bd_) | exact HB.out)⟩⟩
                  · rw [if_neg c11] at H
                    exact absurd H (by simp)
                · rw [if_neg c10] at H
                  have c10b0 : decide (x16_1 < (l1.length : Int)) = false := decide_eq_false c10
                  clear c10
                  by_cases c11 : x16_1 < (x5_1.length : Int)
                  · rw [if_pos c11] at H
                    have c11b0 : decide (x16_1 < (x5_1.length : Int)) = true := decide_eq_true c11
                    clear c11
                    obtain ⟨y369, hy369⟩ : ∃ y_ : List Int, y_ = (x5_1.set (x16_1 : Int).toNat ((IntKind.u64.wrap (x6_1 + (IntKind.u64.wrap (rd l0 x16_1)))) % 4294967296)) := ⟨_, rfl⟩
                    rw [← hy369] at H
                    have Ny369 := As_.mk hy369
                    clear hy369
                    have H' := As_.mk H
                    clear H
                    have p367 : 0 ≤ (x16_1 : Int) := of_decide_eq_true (by first | (with_reducible assumption) | assumption)
                    have q367 : x16_1 < (l0.length : Int) := of_decide_eq_true (by first | (with_reducible assumption) | assumption)
                    obtain ⟨ad367, e367, hx367_0⟩ := Kd.at_int HR0.out x16_1 p367 q367
                    cases e367
                    replace hx367_0 := (HB.out.cell (World.block_lt_of_cell? w _ hx367_0)).trans hx367_0
                    replace p367 := eq_true p367
                    replace q367 := eq_true q367
                    have p12 : 0 ≤ (x16_1 : Int) := of_decide_eq_true (by first | (with_reducible assumption) | assumption)
                    have q12 : (x16_1 : Int) < ((x5_1.length : Int) : Int) := of_decide_eq_true (by first | (with_reducible assumption) | assumption)
                    obtain ⟨go12, co12, eo12, gb12, gl12, cl12, HG12⟩ := Kd.R_form HO_5.out (by omega)
                    (first | cases eo12 | (injection eo12 with ea_ en_ ec_; (first | subst ea_ | (injection ea_ with ea_; subst ea_)); subst ec_; clear en_))
                    have GB12 := As_.mk gb12
                    have GG12 := As_.mk HG12
                    clear gb12 gl12 HG12
                    obtain ⟨hx12_0, hf12_0⟩ := Kd.R_celln 0 HO_5.out (x16_1 : Int) p12 q12
                    replace p12 := eq_true p12
                    replace q12 := eq_true q12
                    have HP13 := Kd.R_putg HO_5.out (x16_1 : Int) ((IntKind.u64.wrap (x6_1 + (IntKind.u64.wrap (rd l0 x16_1)))) % 4294967296)
                    go_wp2_with (first | ((with_reducible refine gate_store (t := 202) (p := 46) rfl ?_); refine store_event (t := 202) (p := 46) (v := ?vo_w14) (w1 := (wr.setCell ⟨go12, (x16_1 : Int).toNat, none⟩ (.int .u32 ((IntKind.u64.wrap (x6_1 + (IntKind.u64.wrap (rd l0 x16_1)))) % 4294967296)))) ?hg ?ho ?hn ?hr ?_; (case ho => rfl); (case hg => rfl); (case hn => rfl); (case hr => first | (go_simp; done) | (go_simp; rfl)); intro w14 hw; have hg : wr.grownBy w14 (some go12) := (by rw [hw]; exact HP13.2); have hp_ : Kd.R (Kd.int .u32) 202 w14 w.heap.size (fun k_ => (w.heap.size ≤ k_)) (.slice (some ⟨go12, 0, none⟩) x5_1.length co12) y369 := (by rw [hw, Ny369.out]; exact HP13.1); clear HP13; have n0_ := As_.mk (hp_); have n1_ := As_.mk ((by rw [hw]; exact bs_ (HB.out) GB12.out : Below w.heap.size w w14)); clear HO_5; clear HB; have HO_5 := n0_; have HB := n1_; clear n0_ n1_; clear hg hw hp_))
                    go_roundg k1
                    case measure => have := HK1.out; omega
                    case rel => exact ⟨y369, ((IntKind.u64.wrap (x6_1 + (IntKind.u64.wrap (rd l0 x16_1)))) / 4294967296), (wrap64 (x16_1 + 1)), (by first | rfl | (simp; done) | (simp [*]; done)), (by first | rfl | (simp; done) | (simp [*]; done)), H', ⟨by have := HK1.out; omega⟩, ⟨by (with_reducible repeat (first | apply Kd.R_alloc | apply Kd.R_drewN | apply Kd.R_drew)); exact HO_5.out⟩, ⟨by repeat (first | (with_reducible first | exact HB.out | apply ba_ | apply pN_ | apply bd_) | exact HB.out)⟩⟩
                  · rw [if_neg c11] at H
                    exact absurd H (by simp)
              · rw [if_neg c9] at H
                exact absurd H (by simp)
            · rw [if_neg c8] at H
              exact absurd H (by simp)
          · rw [if_neg c7] at H
            have c7b0 : decide (x16_1 < (l0.length : Int)) = false := decide_eq_false c7
            clear c7
            by_cases c21 : (l0.length : Int) < (x5_1.length : Int)
            · rw [if_pos c21] at H
              have c21b0 : decide ((l0.length : Int) < (x5_1.length : Int)) = true := decide_eq_true c21
              have c21n : l0.length < x5_1.length := by omega
              clear c21
              obtain ⟨y370, hy370⟩ : ∃ y_ : List Int, y_ = (x5_1.set l0.length (x6_1 % 4294967296)) := ⟨_, rfl⟩
              rw [← hy370] at H
              have Ny370 := As_.mk hy370
              have Ly370 : y370.length = x5_1.length := by rw [hy370]; simp
              clear hy370
              replace H := Option.bind_eq_some_iff.mp H
              obtain ⟨t371, A190, H⟩ := H
              replace H : (some t371) = some r := H
              have A19 := As_.mk A190
              clear A190
              obtain rfl := Option.some.inj H
              have q12 : ((l0.length : Nat) : Int) < ((x5_1.length : Int) : Int) := of_decide_eq_true (by first | (with_reducible assumption) | assumption)
              obtain ⟨go12, co12, eo12, gb12, gl12, cl12, HG12⟩ := Kd.R_form HO_5.out (by omega)
              (first | cases eo12 | (injection eo12 with ea_ en_ ec_; (first | subst ea_ | (injection ea_ with ea_; subst ea_)); subst ec_; clear en_))
              have GB12 := As_.mk gb12
              clear gb12 gl12 HG12
              obtain ⟨hx12_0, hf12_0⟩ := Kd.R_celln 0 HO_5.out ((l0.length : Nat) : Int) (by omega) q12
              replace q12 := eq_true q12
              have HP13 := Kd.R_putg HO_5.out ((l0.length : Nat) : Int) (x6_1 % 4294967296)
              rw [Int.toNat_natCast] at HP13 hx12_0 hf12_0
              have HLY := As_.mk Ly370
              clear Ly370
              go_wp2_with fail
              have HBS : Below w.heap.size w (wr.setCell ⟨go12, l0.length, none⟩ (.int .u32 (x6_1 % 4294967296))) := bs_ (HB.out) GB12.out
              have HPS := HP13.1
              clear HP13
              rw [← Ny370.out] at HPS
              rw [← HLY.out] at HPS
              rw [show x5_1.length = y370.length from HLY.out.symm]
              refine (impl_magTrim.calls k1 (fun k_ => some k_ = (.slice (some ⟨go12, 0, none⟩) y370.length co12 : Value).ownBlock) _ _ y370 t371 _ (Kd.R_V (Kd.R_tight rfl HPS)) A19.out).mono ?_
              rintro e w21 ⟨v372, rfl, ho0, hb⟩
              have HV := Kd.V_lower (base' := w.heap.size) (Kd.V_mono (ok' := fun k_ => (w.heap.size ≤ k_)) ho0 (fun k_ hk_ => Or.elim hk_ (fun hs_ => (HPS.1 k_ hs_.symm)) (fun hn_ => Nat.le_trans (bz_ HBS) hn_))) (bz_ HBS)
              have HBB := As_.mk (bp_ HBS hb)
              have HVV := As_.mk HV
              clear HV ho0 hb HPS HBS
              go_wp2_with fail
              go_ret
              exact ⟨_, rfl, HVV.out, HBB.out⟩
            · rw [if_neg c21] at H
              exact absurd H (by simp)
    · rw [if_neg c4] at H
      exact absurd H (by simp)
  · rw [if_neg c3] at H
    exact absurd H (by simp)
set_option maxHeartbeats 8000000 in
set_option maxRecDepth 100000 in
theorem impl_magAdd.callsB (k : Nat) (A0 : Option Addr) (c0 : Nat) (l0 : List Int) (A1 : Option Addr) (c1 : Nat) (l1 : List Int) (r : List Int) (w : World) (hr0 : Kd.C (Kd.int .u32) w A0 l0.length l0) (hc0 : l0.length ≤ c0) (hr1 : Kd.C (Kd.int .u32) w A1 l1.length l1) (hc1 : l1.length ≤ c1) (hlt : l0.length < l1.length) (h : impl_magAdd.f0 k l1 l0 = some r) :
    Calls Tryz.prog 179 #[.slice A0 l0.length c0, .slice A1 l1.length c1] w fun e w' => ∃ v0_ : Value, e = .returned (v0_) ∧ Kd.V (Kd.int .u32) 202 w' w.heap.size (fun k_ => (w.heap.size ≤ k_)) v0_ r ∧ Below w.heap.size w w' := by
  have HR0 := As_.mk hr0
  have HC0 := As_.mk hc0
  clear hr0 hc0
  have HR1 := As_.mk hr1
  have HC1 := As_.mk hc1
  clear hr1 hc1
  have hltb : decide (l0.length < l1.length) = true := by simpa using hlt
  have hltb2 : decide ((l0.length : Int) < (l1.length : Int)) = true := by simpa using hlt
  clear hlt
  have HB := As_.mk (Below.refl w.heap.size w)
  have H : (if 0 ≤ (wrap64 ((l1.length : Int) + 1)) then (if ((wrap64 ((l1.length : Int) + 1)) : Int).toNat ≤ 70368744177664 then (impl_magAdd.l0 k l0 (List.replicate ((wrap64 ((l1.length : Int) + 1)) : Int).toNat 0) 0 l1 (l1.length : Int) 0) else (none)) else (none)) = some r := h
  clear h
  by_cases c3 : 0 ≤ (wrap64 ((l1.length : Int) + 1))
  · rw [if_pos c3] at H
    have c3b1 : decide (0 ≤ (wrap64 ((l1.length : Int) + 1))) = true := decide_eq_true c3
    clear c3
    by_cases c4 : ((wrap64 ((l1.length : Int) + 1)) : Int).toNat ≤ 70368744177664
    · rw [if_pos c4] at H
      have c4b1 : decide (((wrap64 ((l1.length : Int) + 1)) : Int).toNat ≤ 70368744177664) = true := decide_eq_true c4
      clear c4
      obtain ⟨y364, hy364⟩ : ∃ y_ : List Int, y_ = (List.replicate ((wrap64 ((l1.length : Int) + 1)) : Int).toNat 0) := ⟨_, rfl⟩
      rw [← hy364] at H
      have Ny364 := As_.mk hy364
      clear hy364
      have H' := As_.mk H
      clear H
      go_enter Tryz.func179, Tryz.ntmps179
      go_wp2_with (first | ((with_reducible refine gate_dst (N := 19) rfl ?_); refine Kd.R_make (Kd.int .u32) _ 202 rfl (N := 19) rfl 156 _ _ rfl ((wrap64 ((l1.length : Int) + 1)) : Int) rfl rfl Tryz.underlying156 (.int .u32 0) 4 info202 rfl (by decide) (by omega) 0 (ok := fun _ => True) (okp := fun _ => True) rfl (fun _ hk => hk) trivial (of_decide_eq_true (by first | (with_reducible assumption) | assumption)) (Nat.le_trans (Nat.mul_le_mul_right _ (of_decide_eq_true (by first | (with_reducible assumption) | assumption) : ((wrap64 ((l1.length : Int) + 1)) : Int).toNat ≤ 70368744177664)) (by omega)) (Below.refl _ _) (Nat.le_refl _) ?_; intro v365 w5 ho6 hb hg_ hnew_; clear hg_ hnew_; rw [← Ny364.out] at ho6; have n0_ := As_.mk (Kd.R_lower (Kd.R_newM (M := fun k_ => (w.heap.size ≤ k_)) ho6 (bz_ (by repeat (first | (with_reducible first | exact HB.out | apply ba_ | apply pN_ | apply bd_) | exact HB.out))) (fun k_ h_ => h_)) (bz_ (by repeat (first | (with_reducible first | exact HB.out | apply ba_ | apply pN_ | apply bd_) | exact HB.out)))); have n1_ := As_.mk (bp_ (by repeat (first | (with_reducible first | exact HB.out | apply ba_ | apply pN_ | apply bd_) | exact HB.out)) hb); clear HB; have HO366 := n0_; have HB := n1_; clear n0_ n1_; clear hb ho6))
      go_loopg [6, 22] k (fun kq v6 v22 w' => ∃ (x5_1 : List Int) (x6_1 : Int) (x16_1 : Int), v6 = .int .u64 x6_1 ∧ v22 = .int .i64 x16_1 ∧ As_ (impl_magAdd.l0 kq l0 x5_1 x6_1 l1 (l1.length : Int) x16_1 = some r) ∧ As_ (kq ≤ k) ∧ As_ (Kd.R (Kd.int .u32) 202 w' w.heap.size (fun k_ => (w.heap.size ≤ k_)) v365 x5_1) ∧ As_ (Below w.heap.size w w'))
      case atStart => exact ⟨y364, 0, 0, (by first | rfl | (simp; done) | (simp [*]; done)), (by first | rfl | (simp; done) | (simp [*]; done)), H', ⟨Nat.le_refl _⟩, ⟨by (with_reducible repeat (first | apply Kd.R_alloc | apply Kd.R_drewN | apply Kd.R_drew)); exact Kd.R_mono HO366.out (fun _ hk => hk.1)⟩, ⟨by repeat (first | (with_reducible first | exact HB.out | apply ba_ | apply pN_ | apply bd_) | exact HB.out)⟩⟩
      case round =>
        clear H'
        clear c3b1 c4b1 Ny364
        obtain ⟨x5_1, x6_1, x16_1, rfl, rfl, HA, HK1, HO_5, HB⟩ := hrel
        cases gk with
        | zero => exact absurd HA.out (by simp [impl_magAdd.l0])
        | succ k1 =>
          have H := HA.out
          clear HA
          simp only [impl_magAdd.l0] at H
          by_cases c7 : x16_1 < (l1.length : Int)
          · rw [if_pos c7] at H
            have c7b0 : decide (x16_1 < (l1.length : Int)) = true := decide_eq_true c7
            clear c7
            by_cases c8 : 0 ≤ x16_1
            · rw [if_pos c8] at H
              have c8b0 : decide (0 ≤ x16_1) = true := decide_eq_true c8
              clear c8
              by_cases c9 : x16_1 < (l1.length : Int)
              · rw [if_pos c9] at H
                have c9b0 : decide (x16_1 < (l1.length : Int)) = true := decide_eq_true c9
                clear c9
                by_cases c10 : x16_1 < (l0.length : Int)
                · rw [if_pos c10] at H
                  have c10b0 : decide (x16_1 < (l0.length : Int)) = true := decide_eq_true c10
                  clear c10
                  by_cases c11 : x16_1 < (x5_1.length : Int)
                  · rw [if_pos c11] at H
                    have c11b0 : decide (x16_1 < (x5_1.length : Int)) = true := decide_eq_true c11
                    clear c11
                    obtain ⟨y369, hy369⟩ : ∃ y_ : List Int, y_ = (x5_1.set (x16_1 : Int).toNat ((IntKind.u64.wrap ((IntKind.u64.wrap (x6_1 + (IntKind.u64.wrap (rd l1 x16_1)))) + (IntKind.u64.wrap (rd l0 x16_1)))) % 4294967296)) := ⟨_, rfl⟩
                    rw [← hy369] at H
                    have Ny369 := As_.mk hy369
                    clear hy369
                    have H' := As_.mk H
                    clear H
                    have p367 : 0 ≤ (x16_1 : Int) := of_decide_eq_true (by first | (with_reducible assumption) | assumption)
                    have q367 : x16_1 < (l1.length : Int) := of_decide_eq_true (by first | (with_reducible assumption) | assumption)
                    obtain ⟨ad367, e367, hx367_0⟩ := Kd.at_int HR1.out x16_1 p367 q367
                    cases e367
                    replace hx367_0 := (HB.out.cell (World.block_lt_of_cell? w _ hx367_0)).trans hx367_0
                    replace p367 := eq_true p367
                    replace q367 := eq_true q367
                    have p368 : 0 ≤ (x16_1 : Int) := of_decide_eq_true (by first | (with_reducible assumption) | assumption)
                    have q368 : x16_1 < (l0.length : Int) := of_decide_eq_true (by first | (with_reducible assumption) | assumption)
                    obtain ⟨ad368, e368, hx368_0⟩ := Kd.at_int HR0.out x16_1 p368 q368
                    cases e368
                    replace hx368_0 := (HB.out.cell (World.block_lt_of_cell? w _ hx368_0)).trans hx368_0
                    replace p368 := eq_true p368
                    replace q368 := eq_true q368
                    have p12 : 0 ≤ (x16_1 : Int) := of_decide_eq_true (by first | (with_reducible assumption) | assumption)
                    have q12 : (x16_1 : Int) < ((x5_1.length : Int) : Int) := of_decide_eq_true (by first | (with_reducible assumption) | assumption)
                    obtain ⟨go12, co12, eo12, gb12, gl12, cl12, HG12⟩ := Kd.R_form HO_5.out (by omega)
                    (first | cases eo12 | (injection eo12 with ea_ en_ ec_; (first | subst ea_ | (injection ea_ with ea_; subst ea_)); subst ec_; clear en_))
                    have GB12 := As_.mk gb12
                    have GG12 := As_.mk HG12
                    clear gb12 gl12 HG12
                    obtain ⟨hx12_0, hf12_0⟩ := Kd.R_celln 0 HO_5.out (x16_1 : Int) p12 q12
                    replace p12 := eq_true p12
                    replace q12 := eq_true q12
                    have HP13 := Kd.R_putg HO_5.out (x16_1 : Int) ((IntKind.u64.wrap ((IntKind.u64.wrap (x6_1 + (IntKind.u64.wrap (rd l1 x16_1)))) + (IntKind.u64.wrap (rd l0 x16_1)))) % 4294967296)
                    go_wp2_with (first | ((with_reducible refine gate_store (t := 202) (p := 46) rfl ?_); refine store_event (t := 202) (p := 46) (v := ?vo_w14) (w1 := (wr.setCell ⟨go12, (x16_1 : Int).toNat, none⟩ (.int .u32 ((IntKind.u64.wrap ((IntKind.u64.wrap (x6_1 + (IntKind.u64.wrap (rd l1 x16_1)))) + (IntKind.u64.wrap (rd l0 x16_1)))) % 4294967296)))) ?hg ?ho ?hn ?hr ?_; (case ho => rfl); (case hg => rfl); (case hn => rfl); (case hr => first | (go_simp; done) | (go_simp; rfl)); intro w14 hw; have hg : wr.grownBy w14 (some go12) := (by rw [hw]; exact HP13.2); have hp_ : Kd.R (Kd.int .u32) 202 w14 w.heap.size (fun k_ => (w.heap.size ≤ k_)) (.slice (some ⟨go12, 0, none⟩) x5_1.length co12) y369 := (by rw [hw, Ny369.out]; exact HP13.1); clear HP13; have n0_ := As_.mk (hp_); have n1_ := As_.mk ((by rw [hw]; exact bs_ (HB.out) GB12.out : Below w.heap.size w w14)); clear HO_5; clear HB; have HO_5 := n0_; have HB := n1_; clear n0_ n1_; clear hg hw hp_))
                    go_roundg k1
                    case measure => have := HK1.out; omega
                    case rel => exact ⟨y369, ((IntKind.u64.wrap ((IntKind.u64.wrap (x6_1 + (IntKind.u64.wrap (rd l1 x16_1)))) + (IntKind.u64.wrap (rd l0 x16_1)))) / 4294967296), (wrap64 (x16_1 + 1)), (by first | rfl | (simp; done) | (simp [*]; done)), (by first | rfl | (simp; done) | (simp [*]; done)), H', ⟨by have := HK1.out; omega⟩, ⟨by (with_reducible repeat (first | apply Kd.R_alloc | apply Kd.R_drewN | apply Kd.R_drew)); exact HO_5.out⟩, ⟨by repeat (first | (with_reducible first | exact HB.out | apply ba_ | apply pN_ | apply bd_) | exact HB.out)⟩⟩
                  · rw [if_neg c11] at H
                    exact absurd H (by simp)
                · rw [if_neg c10] at H
                  have c10b0 : decide (x16_1 < (l0.length : Int)) = false := decide_eq_false c10
                  clear c10
                  by_cases c11 : x16_1 < (x5_1.length : Int)
                  · rw [if_pos c11] at H
                    have c11b0 : decide (x16_1 < (x5_1.length : Int)) = true := decide_eq_true c11
                    clear c11
                    obtain ⟨y369, hy369⟩ : ∃ y_ : List Int, y_ = (x5_1.set (x16_1 : Int).toNat ((IntKind.u64.wrap (x6_1 + (IntKind.u64.wrap (rd l1 x16_1)))) % 4294967296)) := ⟨_, rfl⟩
                    rw [← hy369] at H
                    have Ny369 := As_.mk hy369
                    clear hy369
                    have H' := As_.mk H
                    clear H
                    have p367 : 0 ≤ (x16_1 : Int) := of_decide_eq_true (by first | (with_reducible assumption) | assumption)
                    have q367 : x16_1 < (l1.length : Int) := of_decide_eq_true (by first | (with_reducible assumption) | assumption)
                    obtain ⟨ad367, e367, hx367_0⟩ := Kd.at_int HR1.out x16_1 p367 q367
                    cases e367
                    replace hx367_0 := (HB.out.cell (World.block_lt_of_cell? w _ hx367_0)).trans hx367_0
                    replace p367 := eq_true p367
                    replace q367 := eq_true q367
                    have p12 : 0 ≤ (x16_1 : Int) := of_decide_eq_true (by first | (with_reducible assumption) | assumption)
                    have q12 : (x16_1 : Int) < ((x5_1.length : Int) : Int) := of_decide_eq_true (by first | (with_reducible assumption) | assumption)
                    obtain ⟨go12, co12, eo12, gb12, gl12, cl12, HG12⟩ := Kd.R_form HO_5.out (by omega)
                    (first | cases eo12 | (injection eo12 with ea_ en_ ec_; (first | subst ea_ | (injection ea_ with ea_; subst ea_)); subst ec_; clear en_))
                    have GB12 := As_.mk gb12
                    have GG12 := As_.mk HG12
                    clear gb12 gl12 HG12
                    obtain ⟨hx12_0, hf12_0⟩ := Kd.R_celln 0 HO_5.out (x16_1 : Int) p12 q12
                    replace p12 := eq_true p12
                    replace q12 := eq_true q12
                    have HP13 := Kd.R_putg HO_5.out (x16_1 : Int) ((IntKind.u64.wrap (x6_1 + (IntKind.u64.wrap (rd l1 x16_1)))) % 4294967296)
                    go_wp2_with (first | ((with_reducible refine gate_store (t := 202) (p := 46) rfl ?_); refine store_event (t := 202) (p := 46) (v := ?vo_w14) (w1 := (wr.setCell ⟨go12, (x16_1 : Int).toNat, none⟩ (.int .u32 ((IntKind.u64.wrap (x6_1 + (IntKind.u64.wrap (rd l1 x16_1)))) % 4294967296)))) ?hg ?ho ?hn ?hr ?_; (case ho => rfl); (case hg => rfl); (case hn => rfl); (case hr => first | (go_simp; done) | (go_simp; rfl)); intro w14 hw; have hg : wr.grownBy w14 (some go12) := (by rw [hw]; exact HP13.2); have hp_ : Kd.R (Kd.int .u32) 202 w14 w.heap.size (fun k_ => (w.heap.size ≤ k_)) (.slice (some ⟨go12, 0, none⟩) x5_1.length co12) y369 := (by rw [hw, Ny369.out]; exact HP13.1); clear HP13; have n0_ := As_.mk (hp_); have n1_ := As_.mk ((by rw [hw]; exact bs_ (HB.out) GB12.out : Below w.heap.size w w14)); clear HO_5; clear HB; have HO_5 := n0_; have HB := n1_; clear n0_ n1_; clear hg hw hp_))
                    go_roundg k1
                    case measure => have := HK1.out; omega
                    case rel => exact ⟨y369, ((IntKind.u64.wrap (x6_1 + (IntKind.u64.wrap (rd l1 x16_1)))) / 4294967296), (wrap64 (x16_1 + 1)), (by first | rfl | (simp; done) | (simp [*]; done)), (by first | rfl | (simp; done) | (simp [*]; done)), H', ⟨by have := HK1.out; omega⟩, ⟨by (with_reducible repeat (first | apply Kd.R_alloc | apply Kd.R_drewN | apply Kd.R_drew)); exact HO_5.out⟩, ⟨by repeat (first | (with_reducible first | exact HB.out | apply ba_ | apply pN_ | apply bd_) | exact HB.out)⟩⟩
                  · rw [if_neg c11] at H
                    exact absurd H (by simp)
              · rw [if_neg c9] at H
                exact absurd H (by simp)
            · rw [if_neg c8] at H
              exact absurd H (by simp)
          · rw [if_neg c7] at H
            have c7b0 : decide (x16_1 < (l1.length : Int)) = false := decide_eq_false c7
            clear c7
            by_cases c21 : (l1.length : Int) < (x5_1.length : Int)
            · rw [if_pos c21] at H
              have c21b0 : decide ((l1.length : Int) < (x5_1.length : Int)) = true := decide_eq_true c21
              have c21n : l1.length < x5_1.length := by omega
              clear c21
              obtain ⟨y370, hy370⟩ : ∃ y_ : List Int, y_ = (x5_1.set l1.length (x6_1 % 4294967296)) := ⟨_, rfl⟩
              rw [← hy370] at H
              have Ny370 := As_.mk hy370
              have Ly370 : y370.length = x5_1.length := by rw [hy370]; simp
              clear hy370
              replace H := Option.bind_eq_some_iff.mp H
              obtain ⟨t371, A190, H⟩ := H
              replace H : (some t371) = some r := H
              have A19 := As_.mk A190
              clear A190
              obtain rfl := Option.some.inj H
              have q12 : ((l1.length : Nat) : Int) < ((x5_1.length : Int) : Int) := of_decide_eq_true (by first | (with_reducible assumption) | assumption)
              obtain ⟨go12, co12, eo12, gb12, gl12, cl12, HG12⟩ := Kd.R_form HO_5.out (by omega)
              (first | cases eo12 | (injection eo12 with ea_ en_ ec_; (first | subst ea_ | (injection ea_ with ea_; subst ea_)); subst ec_; clear en_))
              have GB12 := As_.mk gb12
              clear gb12 gl12 HG12
              obtain ⟨hx12_0, hf12_0⟩ := Kd.R_celln 0 HO_5.out ((l1.length : Nat) : Int) (by omega) q12
              replace q12 := eq_true q12
              have HP13 := Kd.R_putg HO_5.out ((l1.length : Nat) : Int) (x6_1 % 4294967296)
              rw [Int.toNat_natCast] at HP13 hx12_0 hf12_0
              have HLY := As_.mk Ly370
              clear Ly370
              go_wp2_with fail
              have HBS : Below w.heap.size w (wr.setCell ⟨go12, l1.length, none⟩ (.int .u32 (x6_1 % 4294967296))) := bs_ (HB.out) GB12.out
              have HPS := HP13.1
              clear HP13
              rw [← Ny370.out] at HPS
              rw [← HLY.out] at HPS
              rw [show x5_1.length = y370.length from HLY.out.symm]
              refine (impl_magTrim.calls k1 (fun k_ => some k_ = (.slice (some ⟨go12, 0, none⟩) y370.length co12 : Value).ownBlock) _ _ y370 t371 _ (Kd.R_V (Kd.R_tight rfl HPS)) A19.out).mono ?_
              rintro e w21 ⟨v372, rfl, ho0, hb⟩
              have HV := Kd.V_lower (base' := w.heap.size) (Kd.V_mono (ok' := fun k_ => (w.heap.size ≤ k_)) ho0 (fun k_ hk_ => Or.elim hk_ (fun hs_ => (HPS.1 k_ hs_.symm)) (fun hn_ => Nat.le_trans (bz_ HBS) hn_))) (bz_ HBS)
              have HBB := As_.mk (bp_ HBS hb)
              have HVV := As_.mk HV
              clear HV ho0 hb HPS HBS
              go_wp2_with fail
              go_ret
              exact ⟨_, rfl, HVV.out, HBB.out⟩
            · rw [if_neg c21] at H
              exact absurd H (by simp)
    · rw [if_neg c4] at H
      exact absurd H (by simp)
  · rw [if_neg c3] at H
    exact absurd H (by simp)
end Go.Proofs.YtlogcnglmdpejaaGreatDoor.Pq
end
section
namespace Go.Proofs.YtlogcnglmdpejaaGreatDoor.Hd
open Go.RowKit Go.Proofs.YtlogcnglmdpejaaGreatDoorW.PrintWords Go.Proofs.YtlogcnglmdpejaaGreatDoorW.PrintLast Go.Proofs.YtlogcnglmdpejaaGreatDoorW.PrintMore Go.Proofs.YtlogcnglmdpejaaGreatDoor.Pq
attribute [local go_sem] max2_int min2_int max_two min_two max_three min_three max_four min_four
set_option linter.unusedVariables false
set_option linter.unusedSimpArgs false
def Mg (w : World) (v : Value) (n : Nat) : Prop := ∃ A c, v = .slice A (D n).length c ∧ (D n).length ≤ c ∧ Kd.C (Kd.int .u32) w A (D n).length (D n)
def Ic (w : World) (g : Nat) : Prop := ∃ b A n c, w.heap[g]? = some (.cells #[.bool b, .slice A n c] 158 (0, 0))
def Big (w : World) (g : Nat) (z : Int) : Prop := ∃ v, w.heap[g]? = some (.cells #[.bool (decide (z < 0)), v] 158 (0, 0)) ∧ Mg w v z.natAbs
def sg (neg : Bool) (n : Nat) : Int := if neg then -(n : Int) else n
theorem Big.ic {w : World} {g : Nat} {z : Int} (h : Big w g z) : Ic w g := by
  obtain ⟨v, hb, A, c, rfl, _⟩ := h
  exact ⟨_, _, _, _, hb⟩
theorem heap_lt {w : World} {g : Nat} {o : Obj} (h : w.heap[g]? = some o) : g < w.heap.size := (Array.getElem?_eq_some_iff.1 h).1
theorem Ic.lt {w : World} {g : Nat} (h : Ic w g) : g < w.heap.size := by
  obtain ⟨b, A, n, c, h⟩ := h
  exact heap_lt h
theorem Big.lt {w : World} {g : Nat} {z : Int} (h : Big w g z) : g < w.heap.size := h.ic.lt
theorem Mg.below {w w' : World} {v : Value} {n : Nat} (h : Mg w v n) (hb : Below w.heap.size w w') : Mg w' v n := by
  obtain ⟨A, c, rfl, hl, hc⟩ := h
  exact ⟨A, c, rfl, hl, Kd.C_below hc hb⟩
theorem Ic.below {w w' : World} {g : Nat} (h : Ic w g) (hb : Below w.heap.size w w') : Ic w' g := by
  obtain ⟨b, A, n, c, e⟩ := h
  exact ⟨b, A, n, c, (hb.block g (heap_lt e)).trans e⟩
theorem Big.below {w w' : World} {g : Nat} {z : Int} (h : Big w g z) (hb : Below w.heap.size w w') : Big w' g z := by
  obtain ⟨v, e, hm⟩ := h
  exact ⟨v, (hb.block g (heap_lt e)).trans e, hm.below hb⟩
theorem C_ne {w : World} {g : Nat} (hi : Ic w g) {A : Option Addr} {n : Nat} {ds : List Int} (h : Kd.C (Kd.int .u32) w A n ds) : ∀ ad, A = some ad → 0 < n → ad.block ≠ g := by
  rintro ad rfl hn rfl
  obtain ⟨b, A', n', c', e⟩ := hi
  have hlen := h.1
  obtain ⟨ad', e1, hx⟩ := Kd.at_int h 0 (by omega) (by omega)
  injection e1 with e1
  subst e1
  unfold World.cell? at hx
  have hblk : (ad.add ((0 : Int).toNat)).block = ad.block := by simp [Addr.add]
  rw [hblk, e] at hx
  simp only at hx
  split at hx
  · cases hx
  · have hoff : (ad.add ((0 : Int).toNat)).off = ad.off := by simp [Addr.add]
    rw [hoff] at hx
    rcases ho : ad.off with _ | _ | k
    · rw [ho] at hx; simp at hx
    · rw [ho] at hx; simp at hx
    · rw [ho] at hx; simp at hx
theorem keep_grown {w w' : World} {g : Nat} (h : w.grownBy w' (some g)) : KeepBut w w' g none := ⟨h.size, fun i hi hne _ => h.block i hi (by simpa using hne)⟩
theorem Mg.grown {w w' : World} {g : Nat} {v : Value} {n : Nat} (h : Mg w v n) (hi : Ic w g) (hg : w.grownBy w' (some g)) : Mg w' v n := by
  obtain ⟨A, c, rfl, hl, hc⟩ := h
  exact ⟨A, c, rfl, hl, Kd.C_keep 0 hc (keep_grown hg) (C_ne hi hc)⟩
theorem Big.grown {w w' : World} {g g' : Nat} {z : Int} (h : Big w g z) (hi : Ic w g') (hne : g ≠ g') (hg : w.grownBy w' (some g')) : Big w' g z := by
  obtain ⟨v, e, hm⟩ := h
  exact ⟨v, (hg.block g (heap_lt e) (by simpa using hne)).trans e, hm.grown hi hg⟩
theorem Ic.grown {w w' : World} {g g' : Nat} (h : Ic w g) (hne : g ≠ g') (hg : w.grownBy w' (some g')) : Ic w' g := by
  obtain ⟨b, A, n, c, e⟩ := h
  exact ⟨b, A, n, c, (hg.block g (heap_lt e) (by simpa using hne)).trans e⟩
theorem grown_below {w w' : World} (h : Below w.heap.size w w') (g : Nat) : w.grownBy w' (some g) := ⟨h.os, h.tape, h.output, h.size, fun i hi _ => h.block i hi⟩
theorem grown_then {w w1 w2 : World} {g : Nat} (h : w.grownBy w1 (some g)) (k : w1.grownBy w2 (some g)) : w.grownBy w2 (some g) :=
  ⟨k.os.trans h.os, k.tape.trans h.tape, k.output.trans h.output, Nat.le_trans h.size k.size, fun i hi hne => (k.block i (Nat.lt_of_lt_of_le hi h.size) hne).trans (h.block i hi hne)⟩
theorem grown_set {w w1 : World} {g : Nat} (h : w.grownBy w1 (some g)) (j : Nat) (u : Value) : w.grownBy (w1.setCell ⟨g, j, none⟩ u) (some g) :=
  ⟨h.os, h.tape, h.output, by simpa [World.setCell] using h.size, fun i hi hne => (Below.heap_setCell w1 ⟨g, j, none⟩ u i (by rintro rfl; exact hne rfl)).trans (h.block i hi hne)⟩
theorem below_of_grown {B : Nat} {w w1 : World} {g : Nat} (h : w.grownBy w1 (some g)) (hg : B ≤ g) (hB : B ≤ w.heap.size) : Below B w w1 :=
  ⟨h.os, h.tape, h.output, h.size, fun k hk => h.block k (by omega) (by simp; omega)⟩
theorem kc_ {w : World} {g : Nat} {cs : Array Value} {t : TypeId} (h : w.heap[g]? = some (.cells cs t (0, 0))) (i : Nat) : w.cell? ⟨g, i, none⟩ = cs[i]? := by
  unfold World.cell?
  rw [h]
  rfl
theorem blk_free {w : World} {g : Nat} {cs : Array Value} {t : TypeId} (h : w.heap[g]? = some (.cells cs t (0, 0))) (i : Nat) : w.frozen? ⟨g, i, none⟩ = false := by
  unfold World.frozen?
  rw [h]
  simp
theorem blk_set {w : World} {g : Nat} {cs : Array Value} {t : TypeId} (h : w.heap[g]? = some (.cells cs t (0, 0))) (i : Nat) (u : Value) : (w.setCell ⟨g, i, none⟩ u).heap[g]? = some (.cells (cs.setIfInBounds i u) t (0, 0)) := by
  simp [World.setCell, Array.getElem?_modify, h]
theorem sg_natAbs (neg : Bool) (n : Nat) : (sg neg n).natAbs = n := by unfold sg; split <;> omega
theorem sg_neg (neg : Bool) (n : Nat) : decide (sg neg n < 0) = (neg && decide (0 < n)) := by
  unfold sg
  cases neg
  · simp
  · simp
theorem sg_of (z : Int) : sg (decide (z < 0)) z.natAbs = z := by
  unfold sg
  split
  · rename_i h
    have : z < 0 := of_decide_eq_true h
    omega
  · rename_i h
    have : ¬ z < 0 := fun h2 => h (decide_eq_true h2)
    omega
theorem C_V {w : World} {A : Option Addr} {ds : List Int} {c : Nat} (hr : Kd.C (Kd.int .u32) w A ds.length ds) (hc : ds.length ≤ c) (base : Nat) : Kd.V (Kd.int .u32) 202 w base (fun k => k < w.heap.size) (.slice A ds.length c) ds :=
  ⟨A, c, rfl, hc, Kd.C_F (Kd.heap_int _) hr⟩
theorem magTrim_calls {w : World} {A : Option Addr} {c : Nat} {ds : List Int} (hr : Kd.C (Kd.int .u32) w A ds.length ds) (hc : ds.length ≤ c) (hd : Dg 4294967296 ds) (hl : ds.length ≤ 100000) :
    Calls Tryz.prog 219 #[.slice A ds.length c] w fun e w' => ∃ v, e = .returned v ∧ Mg w' v (vl 4294967296 ds).toNat ∧ Below w.heap.size w w' := by
  refine (impl_magTrim.calls fuel (fun k => k < w.heap.size) A c ds _ w (C_V hr hc _) (magTrim_f (by have := fuel_ge; omega) (by omega) hd)).mono ?_
  rintro e w' ⟨v, rfl, hV, hb⟩
  obtain ⟨A', c', rfl⟩ := Kd.V_slice hV
  obtain ⟨_, h2, h3⟩ := Kd.V_reads' hV
  exact ⟨_, rfl, ⟨A', c', rfl, h2, h3⟩, hb⟩
theorem pos_len (n : Nat) : decide (0 < (D n).length) = decide (0 < n) := by
  rcases Nat.eq_zero_or_pos n with h | h
  · rw [D_len0.2 h, h]
  · rw [decide_eq_true h, decide_eq_true (Nat.pos_of_ne_zero (fun e => by have := D_len0.1 e; omega))]
theorem put_end {w w1 : World} {gz : Nat} {b0 : Bool} {A0 A1 : Option Addr} {n0 c0 c1 n : Nat} (neg b : Bool) (H1 : w1.heap[gz]? = some (.cells #[.bool b0, .slice A0 n0 c0] 158 (0, 0))) (hl : (D n).length ≤ c1) (hm : Kd.C (Kd.int .u32) w1 A1 (D n).length (D n))
    (hb : Below w.heap.size w w1) (hbv : b = (neg && decide (0 < n))) :
    Big ((w1.setCell ⟨gz, 1, none⟩ (.slice A1 (D n).length c1)).setCell ⟨gz, 0, none⟩ (.bool b)) gz (sg neg n) ∧ w.grownBy ((w1.setCell ⟨gz, 1, none⟩ (.slice A1 (D n).length c1)).setCell ⟨gz, 0, none⟩ (.bool b)) (some gz) := by
  have hg : w1.grownBy ((w1.setCell ⟨gz, 1, none⟩ (.slice A1 (D n).length c1)).setCell ⟨gz, 0, none⟩ (.bool b)) (some gz) := grown_set (grown_set (grown_below (Below.refl _ _) gz) _ _) _ _
  have hic : Ic w1 gz := ⟨_, _, _, _, H1⟩
  refine ⟨⟨.slice A1 (D n).length c1, ?_, ?_⟩, grown_then (grown_below hb gz) hg⟩
  · have h2 := blk_set (blk_set H1 1 (.slice A1 (D n).length c1)) 0 (.bool b)
    rw [h2, sg_neg, ← hbv]
    rfl
  · rw [sg_natAbs]
    exact Mg.grown ⟨A1, c1, rfl, hl, hm⟩ hic hg
set_option maxHeartbeats 1000000 in
theorem put_calls {w : World} {gz : Nat} (neg : Bool) {A : Option Addr} {c : Nat} {ds : List Int} (hz : Ic w gz) (hr : Kd.C (Kd.int .u32) w A ds.length ds) (hc : ds.length ≤ c) (hd : Dg 4294967296 ds) (hl : ds.length ≤ 100000) :
    Calls Tryz.prog 176 #[.pointer (some ⟨gz, 0, none⟩), .bool neg, .slice A ds.length c] w fun e w' => e = .returned (.pointer (some ⟨gz, 0, none⟩)) ∧ Big w' gz (sg neg (vl 4294967296 ds).toNat) ∧ w.grownBy w' (some gz) := by
  obtain ⟨b0, A0, n0, c0, hblk⟩ := hz
  have HBK := As_.mk hblk
  have HC := As_.mk hr
  have hlc := As_.mk hc
  have HD := As_.mk hd
  have HL := As_.mk hl
  have hzlt := heap_lt hblk
  have HLT := As_.mk hzlt
  clear hblk hr hc hd hl hzlt
  obtain ⟨n, hn⟩ : ∃ n, (vl 4294967296 ds).toNat = n := ⟨_, rfl⟩
  have HN := As_.mk hn
  clear hn
  go_enter Tryz.func176, Tryz.ntmps176
  go_wp2_with fail
  refine (magTrim_calls HC.out hlc.out HD.out HL.out).mono ?_
  rintro e w1 ⟨v, rfl, hm, hb⟩
  rw [HN.out] at hm
  obtain ⟨A1, c1, rfl, hl1, hm1⟩ := hm
  have hb1 := (hb.block gz HLT.out).trans HBK.out
  have HB := As_.mk hb
  have HM := As_.mk hm1
  have HL1 := As_.mk hl1
  have H1 := As_.mk hb1
  have k0 := kc_ hb1 0
  have k1 := kc_ hb1 1
  have f0 := blk_free hb1 0
  have f1 := blk_free hb1 1
  simp only [List.getElem?_toArray, List.getElem?_cons_zero, List.getElem?_cons_succ] at k0 k1
  clear hb hm1 hl1 hb1
  cases neg
  · go_wp2_with fail
    go_ret
    rw [HN.out]
    exact ⟨rfl, put_end false _ H1.out HL1.out HM.out HB.out rfl⟩
  · go_wp2_with fail
    go_ret
    rw [HN.out]
    exact ⟨rfl, put_end true _ H1.out HL1.out HM.out HB.out (pos_len n)⟩
theorem big_open {w : World} {g : Nat} {z : Int} (h : Big w g z) : ∃ A c, w.cell? ⟨g, 0, none⟩ = some (.bool (decide (z < 0))) ∧ w.cell? ⟨g, 1, none⟩ = some (.slice A (D z.natAbs).length c) ∧ (D z.natAbs).length ≤ c ∧ Kd.C (Kd.int .u32) w A (D z.natAbs).length (D z.natAbs) := by
  obtain ⟨v, hb, A, c, rfl, hl, hc⟩ := h
  exact ⟨A, c, kc_ hb 0, kc_ hb 1, hl, hc⟩
theorem Sign_calls {w : World} {g : Nat} {z : Int} (h : Big w g z) : Calls Tryz.prog 173 #[.pointer (some ⟨g, 0, none⟩)] w fun e w' => e = .returned (.int .i64 (cm z 0)) ∧ w = w' := by
  obtain ⟨A, c, k0, k1, hl, hc⟩ := big_open h
  clear h hl hc
  rcases Int.lt_trichotomy z 0 with hz | hz | hz
  · have e1 : decide (z < 0) = true := decide_eq_true hz
    have e2 : cm z 0 = -1 := cm_lt hz
    rw [e1] at k0
    rw [e2]
    clear e1 e2 hz
    go_enter Tryz.func173, Tryz.ntmps173
    go_wp2
    go_ret
    exact ⟨rfl, rfl⟩
  · subst hz
    have e1 : (D (0 : Int).natAbs).length = 0 := by rw [show (0 : Int).natAbs = 0 from rfl, D_zero]; rfl
    have e2 : cm 0 0 = 0 := rfl
    rw [e1] at k1
    rw [e2]
    clear e1 e2
    go_enter Tryz.func173, Tryz.ntmps173
    go_wp2
    go_ret
    exact ⟨rfl, rfl⟩
  · have e1 : decide (z < 0) = false := decide_eq_false (by omega)
    have e2 : cm z 0 = 1 := cm_gt hz
    have e3 : 0 < (D z.natAbs).length := Nat.pos_of_ne_zero (fun e => by have := D_len0.1 e; omega)
    rw [e1] at k0
    rw [e2]
    clear e1 e2 hz
    generalize (D z.natAbs).length = n at k1 e3
    go_enter Tryz.func173, Tryz.ntmps173
    go_wp2
    go_ret
    exact ⟨rfl, rfl⟩
theorem magBits_calls {w : World} {n : Nat} {A : Option Addr} {c : Nat} (hc : (D n).length ≤ c) (hr : Kd.C (Kd.int .u32) w A (D n).length (D n)) (hl : (D n).length ≤ 100000) :
    Calls Tryz.prog 218 #[.slice A (D n).length c] w fun e w' => e = .returned (.int .i64 (bits n : Int)) ∧ Below w.heap.size w w' := by
  refine (impl_magBits.calls fuel A c (D n) _ w hr hc (magBits_f (by omega) (by have := fuel_ge; omega))).mono ?_
  rintro e w' ⟨rfl, hd⟩
  exact ⟨rfl, by first | exact hd | exact hd.below⟩
theorem BitLen_calls {w : World} {g : Nat} {z : Int} (h : Big w g z) (hl : (D z.natAbs).length ≤ 100000) : Calls Tryz.prog 174 #[.pointer (some ⟨g, 0, none⟩)] w fun e w' => e = .returned (.int .i64 (bits z.natAbs : Int)) ∧ Below w.heap.size w w' := by
  obtain ⟨A, c, k0, k1, hlc, hc⟩ := big_open h
  have HLC := As_.mk hlc
  have HC := As_.mk hc
  have HL := As_.mk hl
  clear h hlc hc hl
  go_enter Tryz.func174, Tryz.ntmps174
  go_wp2_with fail
  refine (magBits_calls HLC.out HC.out HL.out).mono ?_
  rintro e w' ⟨rfl, hb⟩
  have HB := As_.mk hb
  clear hb
  go_wp2_with fail
  go_ret
  exact ⟨rfl, HB.out⟩
end Go.Proofs.YtlogcnglmdpejaaGreatDoor.Hd
end
