/- Part 23 of the proof of the card of FnExactV: walks of the functions and plain facts on them. -/
import Derived.Test.YtlogcnglmdpejaaGreatDoorMV14
import Derived.Test.YtlogcnglmdpejaaGreatDoorMV17
import Derived.Test.YtlogcnglmdpejaaGreatDoorMV22
import Derived.Test.YtlogcnglmdpejaaGreatDoorMV18
section
namespace Go.Proofs.YtlogcnglmdpejaaGreatDoor.Hd
open Go.RowKit Go.Proofs.YtlogcnglmdpejaaGreatDoorW.PrintWords Go.Proofs.YtlogcnglmdpejaaGreatDoorW.PrintLast Go.Proofs.YtlogcnglmdpejaaGreatDoorW.PrintMore Go.Proofs.YtlogcnglmdpejaaGreatDoor.Pq
set_option linter.unusedVariables false
set_option linter.unusedSimpArgs false
theorem abs_f {k : Nat} {z : Int} (hz : z ≠ 0) (hl : (E z.natAbs).length ≤ 1000) (hk : 5000 ≤ k) : spec_l02Abs.f k (cm z 0) (E z.natAbs) = some (mkW 1 z.natAbs) := by
  unfold spec_l02Abs.f
  have h1 : wrap64 (cm z 0 * cm z 0) = 1 := by
    rcases cm_pm z hz with h | h <;> rw [h] <;> exact w64 (x := 1) (by decide) (by decide)
  rw [h1, make_f (E_dg _) (by omega) (by omega), E_vl, Int.toNat_natCast]
  rfl
theorem len_l0 (n : Nat) : ∀ (k m : Nat) (c : Int), m < 2 ^ n → n < k → 0 ≤ c → c + n ≤ 1000000000 → n ≤ 60 → spec_l02Length.l0 k c (m : Int) = some (c + bits m) := by
  induction n with
  | zero =>
    intro k m c hm hk _ _ _
    obtain ⟨k, rfl⟩ : ∃ m, k = m + 1 := ⟨k - 1, by omega⟩
    have : m = 0 := by simpa using hm
    subst this
    simp [spec_l02Length.l0, bits_zero]
  | succ n ih =>
    intro k m c hm hk hc hb hn
    obtain ⟨k, rfl⟩ : ∃ m, k = m + 1 := ⟨k - 1, by omega⟩
    have h62 : 2 ^ (n + 1) ≤ 2 ^ 60 := Nat.pow_le_pow_right (by omega) hn
    have h60 : (2 : Nat) ^ 60 = 1152921504606846976 := by decide
    rw [spec_l02Length.l0]
    rcases Nat.eq_zero_or_pos m with rfl | h
    · rw [if_neg (by omega), bits_zero]
      simp
    · rw [if_pos (by omega), w64 (by omega) (by omega), Int.tdiv_eq_ediv_of_nonneg (by omega), show (m : Int) / 2 = ((m / 2 : Nat) : Int) by simp, w64 (by omega) (by omega), ih k (m / 2) (c + 1) (by rw [Nat.pow_succ] at hm; omega) (by omega) (by omega) (by omega) (by omega), bits_half h]
      congr 1
      omega
theorem len_f {k n : Nat} {s : Int} (hl : (E n).length ≤ 1000) (hk : 100 ≤ k) : spec_l02Length.f k s (E n) = some (bits n : Int) := by
  unfold spec_l02Length.f
  rcases Nat.eq_zero_or_pos n with rfl | hn
  · rw [E_zero]; simp [bits_zero]
  · obtain ⟨a, t, e, h1, h2, h3⟩ := E_bits hn
    rw [e] at hl ⊢
    have hla : (a ++ [(t : Int)]).length = a.length + 1 := by simp
    rw [hla] at hl ⊢
    rw [if_neg (by omega), w64 (by omega) (by omega), show ((a.length + 1 : Nat) : Int) - 1 = (a.length : Int) by omega, if_pos (by omega), if_pos (by omega), rd_last, w64 (by omega) (by omega), len_l0 24 k t _ h2 (by omega) (by omega) (by omega) (by omega), h3]
    congr 1
    omega
theorem shl24 {y r : Nat} (hy : y < 16777216) (hr : r ≤ 24) : shl .i64 (y : Int) (r : Int) = ((y * 2 ^ r : Nat) : Int) := by
  unfold shl
  have hb : (IntKind.i64).bits = 64 := rfl
  rw [hb, Int.toNat_natCast, Nat.min_eq_left (by omega)]
  have h1 : y * 2 ^ r < 2 ^ 48 := by
    have h2 : 2 ^ r ≤ 2 ^ 24 := Nat.pow_le_pow_right (by omega) hr
    calc y * 2 ^ r ≤ y * 2 ^ 24 := Nat.mul_le_mul_left _ h2
      _ < 2 ^ 48 := by omega
  have e : (y : Int) * 2 ^ r = ((y * 2 ^ r : Nat) : Int) := by
    rw [Int.natCast_mul, Int.natCast_pow]
    rfl
  rw [e]
  generalize y * 2 ^ r = t at h1 ⊢
  rw [i64_w]
  exact w64 (by omega) (by omega)
theorem shr24 (y r : Nat) (hr : r ≤ 64) : shr .i64 (y : Int) (r : Int) = ((y / 2 ^ r : Nat) : Int) := by
  unfold shr
  have hb : (IntKind.i64).bits = 64 := rfl
  rw [hb, Int.toNat_natCast, Nat.min_eq_left hr, Int.natCast_ediv, Int.natCast_pow]
  rfl
theorem sh_rem (n : Nat) : IntKind.u64.wrap (Int.tmod (n : Int) 24) = ((n % 24 : Nat) : Int) := by
  rw [Int.tmod_eq_emod_of_nonneg (by omega), u64w (by omega) (by omega)]
  omega
theorem sh_quo (n : Nat) (h : n ≤ 1000000) : wrap64 (Int.tdiv (n : Int) 24) = ((n / 24 : Nat) : Int) := by
  rw [Int.tdiv_eq_ediv_of_nonneg (by omega), w64 (by omega) (by omega)]
  omega
theorem E_at (n i : Nat) : ∃ y : Nat, (E n).getD i 0 = (y : Int) ∧ y < 16777216 := by
  have h := (E_dg n).getD (by omega) i
  exact ⟨((E n).getD i 0).toNat, by omega, by omega⟩
theorem left_l0 (m : Nat) : ∀ (k j sh n : Nat) (s : Int) (x : List Int) (c : Nat), (E n).length - j = m → j ≤ (E n).length → (E n).length ≤ 1000 → x.length ≤ 2000 + j → m + 3010 ≤ k → Dg 16777216 x → c < 16777216 →
    spec_l02Left.l0 k sh x c j s (E n) = some (mkW s (vl 16777216 x + (16777216 : Int) ^ x.length * (c + 2 ^ (sh % 24) * vl 16777216 ((E n).drop j))).toNat) := by
  induction m with
  | zero =>
    intro k j sh n s x c h1 h2 h3 h4 h5 hd hc
    obtain ⟨k, rfl⟩ : ∃ m, k = m + 1 := ⟨k - 1, by omega⟩
    rw [spec_l02Left.l0, if_neg (by omega), if_pos (by omega), make_f (hd.append (Dg.cons (by omega) (by omega) (Dg.nil _))) (by simp; omega) (by simp; omega), vl_snoc, List.drop_of_length_le (by omega), vl_nil]
    simp only [Option.bind_some, Int.mul_zero, Int.add_zero]
  | succ m ih =>
    intro k j sh n s x c h1 h2 h3 h4 h5 hd hc
    obtain ⟨k, rfl⟩ : ∃ m, k = m + 1 := ⟨k - 1, by omega⟩
    obtain ⟨y, hy, hy2⟩ := E_at n j
    have hr24 : sh % 24 ≤ 24 := by omega
    have hx : vl 16777216 ((E n).drop j) = y + 16777216 * vl 16777216 ((E n).drop (j + 1)) := by rw [drop_getD _ j (by omega), vl_cons, hy]
    have hp : 2 ^ (sh % 24) ≤ 2 ^ 23 := Nat.pow_le_pow_right (by omega) (by omega)
    have hyb : y * 2 ^ (sh % 24) ≤ 16777215 * 8388608 := Nat.mul_le_mul (by omega) hp
    rw [spec_l02Left.l0, if_pos (by omega), if_pos (by omega), sh_rem, if_pos (by omega), if_pos (by omega), rd_getD, hy, shl24 hy2 hr24, ← Int.natCast_add]
    have hcast : ((2 : Int) ^ (sh % 24)) = ((2 ^ (sh % 24) : Nat) : Int) := by rw [Int.natCast_pow]; rfl
    rw [hcast]
    have hyP : y * 2 ^ (sh % 24) = 2 ^ (sh % 24) * y := Nat.mul_comm _ _
    have hpp := Nat.two_pow_pos (sh % 24)
    generalize hP : 2 ^ (sh % 24) = P at hyb hp hyP hpp ⊢
    generalize hT : y * P = T at hyb hyP ⊢
    rw [w64 (by omega) (by omega), Int.tmod_eq_emod_of_nonneg (by omega), Int.tdiv_eq_ediv_of_nonneg (by omega), w64 (by omega) (by omega), w64s j (by omega)]
    rw [show ((c + T : Nat) : Int) % 16777216 = (((c + T) % 16777216 : Nat) : Int) by omega, show ((c + T : Nat) : Int) / 16777216 = (((c + T) / 16777216 : Nat) : Int) by omega]
    rw [ih k (j + 1) sh n s (x ++ [(((c + T) % 16777216 : Nat) : Int)]) ((c + T) / 16777216) (by omega) (by omega) h3 (by simp; omega) (by omega) (hd.append (Dg.cons (by omega) (by omega) (Dg.nil _))) (by omega)]
    congr 3
    rw [hcast, hP, vl_snoc, hx, List.length_append, List.length_singleton, Int.pow_succ]
    generalize vl 16777216 ((E n).drop (j + 1)) = r
    generalize (16777216 : Int) ^ x.length = p
    have e1 : (((c + T) % 16777216 : Nat) : Int) + 16777216 * (((c + T) / 16777216 : Nat) : Int) = (c : Int) + (T : Int) := by omega
    have e2 : (T : Int) = (P : Int) * (y : Int) := by rw [hyP, Int.natCast_mul]
    have e3 : (c : Int) + (P : Int) * ((y : Int) + 16777216 * r) = ((((c + T) % 16777216 : Nat) : Int)) + 16777216 * ((((c + T) / 16777216 : Nat) : Int) + (P : Int) * r) := by
      rw [Int.mul_add, ← Int.mul_assoc, Int.mul_comm (P : Int) 16777216, Int.mul_assoc, Int.mul_add, ← Int.add_assoc, ← Int.add_assoc, e1, e2]
    rw [e3]
    generalize (((c + T) % 16777216 : Nat) : Int) = u
    generalize (((c + T) / 16777216 : Nat) : Int) + (P : Int) * r = v
    rw [Int.mul_add p u, Int.mul_assoc, Int.add_assoc]
theorem left_f {k n sh : Nat} {s : Int} (hl : (E n).length ≤ 1000) (hs : sh ≤ 20000) (hk : 10000 ≤ k) : spec_l02Left.f k s (E n) (sh : Int) = some (mkW s (n * 2 ^ sh)) := by
  unfold spec_l02Left.f
  rw [sh_quo sh (by omega), if_pos (by omega), Int.toNat_natCast, if_pos (by omega)]
  have h := left_l0 (E n).length k 0 sh n s (List.replicate (sh / 24) 0) 0 (by omega) (by omega) hl (by simp; omega) (by omega) (Dg.replicate (by omega) _) (by omega)
  rw [show ((0 : Nat) : Int) = 0 from rfl] at h
  rw [h]
  congr 2
  rw [vl_replicate, List.length_replicate, List.drop_zero, E_vl, Int.zero_add, Int.zero_add]
  have e : (16777216 : Int) ^ (sh / 24) * (2 ^ (sh % 24) * (n : Int)) = ((n * 2 ^ sh : Nat) : Int) := by
    have e2 : (16777216 : Int) ^ (sh / 24) = 2 ^ (24 * (sh / 24)) := by rw [Int.pow_mul]; rfl
    rw [e2, ← Int.mul_assoc, ← Int.pow_add, Nat.div_add_mod, Int.mul_comm, Int.natCast_mul, Int.natCast_pow]
    rfl
  rw [e, Int.toNat_natCast]
theorem up_E' (n : Nat) : up (E n) 0 = n := by
  unfold up
  rw [List.drop_zero, E_vl, Int.toNat_natCast]
theorem up_lt {n i : Nat} (h : (E n).length ≤ i) : up (E n) i = 0 := by
  unfold up
  rw [List.drop_of_length_le h]
  rfl
theorem up_next {n i : Nat} (h : i < (E n).length) : ∃ y : Nat, (E n).getD i 0 = y ∧ y < 16777216 ∧ up (E n) i = y + 16777216 * up (E n) (i + 1) := by
  obtain ⟨y, h1, h2, h3⟩ := up_step (E_dg n) h
  exact ⟨y, h1, h2, by omega⟩
theorem cut_l0 (m : Nat) : ∀ (k i sh n : Nat) (s : Int) (x : List Int), (E n).length - i = m → (E n).length ≤ 1000 → i ≤ 3000 → x.length ≤ i → m + 4010 ≤ k → Dg 16777216 x →
    spec_l02Cut.l0 k sh x i s (E n) = some (mkW s (vl 16777216 x + (16777216 : Int) ^ x.length * ((up (E n) i / 2 ^ (sh % 24) : Nat) : Int)).toNat) := by
  induction m with
  | zero =>
    intro k i sh n s x h1 h3 h2 h4 h5 hd
    obtain ⟨k, rfl⟩ : ∃ m, k = m + 1 := ⟨k - 1, by omega⟩
    rw [spec_l02Cut.l0, if_neg (by omega), make_f hd (by omega) (by omega), up_lt (by omega)]
    simp
  | succ m ih =>
    intro k i sh n s x h1 h3 h2 h4 h5 hd
    obtain ⟨k, rfl⟩ : ∃ m, k = m + 1 := ⟨k - 1, by omega⟩
    obtain ⟨y, hy, hy2, hup⟩ := up_next (n := n) (i := i) (by omega)
    have hr24 : sh % 24 ≤ 64 := by omega
    have hpp := Nat.two_pow_pos (sh % 24)
    have hBt : (16777216 : Nat) = 2 ^ (sh % 24) * 2 ^ (24 - sh % 24) := by rw [← Nat.pow_add, show sh % 24 + (24 - sh % 24) = 24 by omega]
    have htp := Nat.two_pow_pos (24 - sh % 24)
    have hrn := rightNum 16777216 (2 ^ (24 - sh % 24)) (2 ^ (sh % 24)) y (up (E n) (i + 1)) hBt hpp htp hy2
    rw [spec_l02Cut.l0, if_pos (by omega), if_pos (by omega), sh_rem, if_pos (by omega), w64s i (by omega)]
    by_cases hn : i + 1 < (E n).length
    · obtain ⟨y1, hy1, hy12, hup1⟩ := up_next (n := n) (i := i + 1) hn
      have hw : IntKind.u64.wrap (wrap64 (24 - Int.tmod (sh : Int) 24)) = ((24 - sh % 24 : Nat) : Int) := by
        rw [Int.tmod_eq_emod_of_nonneg (by omega), w64 (by omega) (by omega), u64w (by omega) (by omega)]
        omega
      have hmod : up (E n) (i + 1) % 16777216 = y1 := by omega
      rw [hmod] at hrn
      have hdig : (y + 16777216 * y1) / 2 ^ (sh % 24) = y / 2 ^ (sh % 24) + y1 * 2 ^ (24 - sh % 24) := by
        rw [hBt, Nat.mul_assoc, Nat.add_mul_div_left _ _ hpp, Nat.mul_comm y1]
      rw [hdig] at hrn
      rw [if_pos (by omega), if_pos (by omega), hw, if_pos (by omega), if_pos (by omega), rd_getD, rd_getD, hy, hy1, shr24 y _ hr24, shl24 hy12 (by omega), ← Int.natCast_add]
      have hle : y / 2 ^ (sh % 24) ≤ y := Nat.div_le_self _ _
      have hle2 : 2 ^ (24 - sh % 24) ≤ 2 ^ 24 := Nat.pow_le_pow_right (by omega) (by omega)
      have hle3 : y1 * 2 ^ (24 - sh % 24) ≤ 16777215 * 16777216 := Nat.mul_le_mul (by omega) hle2
      generalize hT : y / 2 ^ (sh % 24) + y1 * 2 ^ (24 - sh % 24) = T at hrn ⊢
      rw [w64 (by omega) (by omega), Int.tmod_eq_emod_of_nonneg (by omega), show ((T : Nat) : Int) % 16777216 = ((T % 16777216 : Nat) : Int) by omega]
      rw [ih k (i + 1) sh n s (x ++ [((T % 16777216 : Nat) : Int)]) (by omega) h3 (by omega) (by simp; omega) (by omega) (hd.append (Dg.cons (by omega) (by omega) (Dg.nil _)))]
      congr 3
      rw [vl_snoc, hup, hrn, List.length_append, List.length_singleton, Int.pow_succ]
      generalize (16777216 : Int) ^ x.length = p
      generalize up (E n) (i + 1) / 2 ^ (sh % 24) = Q
      rw [Int.natCast_add, Int.natCast_mul, Int.mul_add, Int.mul_assoc, Int.add_assoc]
      rfl
    · have hz : up (E n) (i + 1) = 0 := up_lt (by omega)
      rw [hz] at hup
      have hle : y / 2 ^ (sh % 24) ≤ y := Nat.div_le_self _ _
      have hz0 : (0 : Int) ≤ ((y / 2 ^ (sh % 24) : Nat) : Int) := Int.natCast_nonneg _
      have hz1 : ((y / 2 ^ (sh % 24) : Nat) : Int) < 16777216 := Int.ofNat_lt.2 (Nat.lt_of_le_of_lt hle hy2)
      rw [if_neg (by omega), if_pos (by omega), rd_getD, hy, shr24 y _ hr24]
      rw [ih k (i + 1) sh n s (x ++ [((y / 2 ^ (sh % 24) : Nat) : Int)]) (by omega) h3 (by omega) (by simp; omega) (by omega) (hd.append (Dg.cons hz0 hz1 (Dg.nil _)))]
      congr 3
      rw [vl_snoc, hup, hz, Nat.mul_zero, Nat.add_zero, Nat.zero_div]
      simp
theorem up_div (n q : Nat) : up (E n) q = n / 16777216 ^ q := by
  induction q with
  | zero => rw [up_E', Nat.pow_zero, Nat.div_one]
  | succ q ih =>
    rcases Nat.lt_or_ge q (E n).length with h | h
    · obtain ⟨y, _, h2, h3⟩ := up_next h
      rw [Nat.pow_succ, ← Nat.div_div_eq_div_mul, ← ih, h3]
      omega
    · rw [up_lt (by omega), Nat.pow_succ, ← Nat.div_div_eq_div_mul, ← ih, up_lt h]
theorem pow24 (sh : Nat) : 16777216 ^ (sh / 24) * 2 ^ (sh % 24) = 2 ^ sh := by
  have e : (16777216 : Nat) ^ (sh / 24) = 2 ^ (24 * (sh / 24)) := by rw [Nat.pow_mul]
  rw [e, ← Nat.pow_add, Nat.div_add_mod]
theorem cut_f {k n sh : Nat} {s : Int} (hl : (E n).length ≤ 1000) (hs : sh ≤ 20000) (hk : 10000 ≤ k) : spec_l02Cut.f k s (E n) (sh : Int) = some (mkW s (n / 2 ^ sh)) := by
  unfold spec_l02Cut.f
  rw [sh_quo sh (by omega), cut_l0 ((E n).length - sh / 24) k (sh / 24) sh n s [] rfl hl (by omega) (by simp) (by omega) (Dg.nil _)]
  congr 2
  simp only [vl_nil, List.length_nil, Int.pow_zero, Int.one_mul, Int.zero_add, Int.toNat_natCast]
  rw [up_div, Nat.div_div_eq_div_mul, pow24]
theorem bit_f {n i : Nat} {s : Int} (hl : (E n).length ≤ 1000) (hi : i ≤ 20000) : spec_l02Bit.f s (E n) (i : Int) = some ((n / 2 ^ i % 2 : Nat) : Int) := by
  unfold spec_l02Bit.f
  rw [sh_quo i (by omega), sh_rem]
  rcases Nat.lt_or_ge (i / 24) (E n).length with h | h
  · obtain ⟨y, hy, hy2, hup⟩ := up_next h
    rw [if_neg (by omega), if_pos (by omega), if_pos (by omega), if_pos (by omega), rd_getD, hy, shr24 y _ (by omega)]
    congr 1
    have hand : Go.bits .and .i64 ((y / 2 ^ (i % 24) : Nat) : Int) 1 = ((y / 2 ^ (i % 24) % 2 : Nat) : Int) := by
      have h127 : (BitVec.ofInt 64 1).toNat = 2 ^ 1 - 1 := by decide
      generalize hT : y / 2 ^ (i % 24) = T
      have hTb : T < 16777216 := by rw [← hT]; exact Nat.lt_of_le_of_lt (Nat.div_le_self _ _) hy2
      have key : (BitVec.ofInt 64 (T : Int) &&& BitVec.ofInt 64 1).toNat = ((T : Int) % ((2 ^ 64 : Nat) : Int)).toNat % 2 ^ 1 := by
        rw [BitVec.toNat_and, BitVec.toNat_ofInt, h127, Nat.and_two_pow_sub_one_eq_mod]
      show IntKind.i64.wrap ((BitVec.ofInt 64 (T : Int) &&& BitVec.ofInt 64 1).toNat : Nat) = _
      rw [key, IntKind.wrap_i64]
      omega
    rw [hand]
    congr 1
    have hq : y = n / 16777216 ^ (i / 24) % 16777216 := by rw [← up_div]; omega
    rw [hq, ← pow24 i, ← Nat.div_div_eq_div_mul]
    generalize n / 16777216 ^ (i / 24) = v
    have hB : (16777216 : Nat) = 2 ^ (i % 24) * (2 * 2 ^ (23 - i % 24)) := by
      rw [← Nat.pow_succ', ← Nat.pow_add, show i % 24 + (23 - i % 24 + 1) = 24 by omega]
    conv => lhs; rw [hB]
    rw [Nat.mod_mul_right_div_self, Nat.mod_mul_right_mod]
  · rw [if_pos (by omega)]
    have hz : n / 2 ^ i = 0 := by
      rw [← pow24 i, ← Nat.div_div_eq_div_mul, ← up_div, up_lt h, Nat.zero_div]
    rw [hz]
    rfl
theorem mkW_z1 (n : Nat) (h : 0 < n) : mkW 1 n = (1, E n) := if_neg (by omega)
theorem E_one : E 1 = [1] := by
  rw [E_pos (by decide), E_zero]
  rfl
theorem of_one {k : Nat} (hk : 100 ≤ k) : spec_l02Of.f k 1 = some (1, [1]) := by
  obtain ⟨k, rfl⟩ : ∃ m, k = m + 3 := ⟨k - 3, by omega⟩
  unfold spec_l02Of.f
  simp only [Option.bind_some]
  rw [if_neg (by decide), spec_l02Of.j0, spec_l02Of.l0, if_neg (by decide), if_neg (by decide), if_pos (by decide)]
  have h1 : wrap64 (Int.tdiv 1 16777216) = 0 := by rw [show Int.tdiv 1 16777216 = 0 from rfl]; exact w64 (by decide) (by decide)
  rw [h1, spec_l02Of.l0, if_pos rfl, make_f (l := ([] : List Int) ++ [Int.tmod 1 16777216]) (Dg.cons (by decide) (by decide) (Dg.nil _)) (by simp) (by simp; omega)]
  simp only [Option.bind_some]
  rw [show (vl 16777216 (([] : List Int) ++ [Int.tmod 1 16777216])).toNat = 1 from rfl, mkW_z1 1 (by decide), E_one]
theorem plus_l0 (m : Nat) : ∀ (k i a b : Nat) (x : List Int) (c : Nat), max (E a).length (E b).length - i = m → (E a).length ≤ 1000 → (E b).length ≤ 1000 → x.length = i → i ≤ 1001 → 2 * m + 10 ≤ k → Dg 16777216 x → c ≤ 1 →
    (m = 0 → i ≤ max (E a).length (E b).length) →
    ∃ L, spec_l02Plus.l0 k (E a) (E b) x c i = some L ∧ Dg 16777216 L ∧ L.length ≤ max (E a).length (E b).length + 1 ∧ vl 16777216 L = vl 16777216 x + (16777216 : Int) ^ i * ((c + up (E a) i + up (E b) i : Nat) : Int) := by
  induction m with
  | zero =>
    intro k i a b x c h1 ha hb hx hi hk hd hc hm
    obtain ⟨k, rfl⟩ : ∃ m, k = m + 4 := ⟨k - 4, by omega⟩
    have hie := hm rfl
    have ea : up (E a) i = 0 := up_lt (by omega)
    have eb : up (E b) i = 0 := up_lt (by omega)
    rw [spec_l02Plus.l0, if_neg (by omega), if_neg (by omega), ea, eb]
    rcases Nat.eq_zero_or_pos c with rfl | hp
    · refine ⟨x, ?_, hd, by omega, by simp⟩
      rw [decide_eq_false (by omega), spec_l02Plus.j1, if_neg (by decide)]
    · have hc1 : c = 1 := by omega
      subst hc1
      refine ⟨x ++ [1], ?_, hd.append (Dg.cons (by decide) (by decide) (Dg.nil _)), by simp; omega, by rw [vl_snoc, hx]; simp⟩
      have h1' : wrap64 (Int.tdiv ((1 : Nat) : Int) 16777216) = 0 := by rw [show Int.tdiv ((1 : Nat) : Int) 16777216 = 0 from rfl]; exact w64 (by decide) (by decide)
      rw [decide_eq_true (by omega), spec_l02Plus.j1, if_pos rfl, if_neg (by omega), if_neg (by omega), if_pos (by omega), h1', w64s i (by omega), spec_l02Plus.l0, if_neg (by omega), if_neg (by omega), decide_eq_false (by omega), spec_l02Plus.j1, if_neg (by decide)]
      rfl
  | succ m ih =>
    intro k i a b x c h1 ha hb hx hi hk hd hc hm
    obtain ⟨k, rfl⟩ : ∃ m, k = m + 2 := ⟨k - 2, by omega⟩
    have hj : ∀ X : Option (List Int), spec_l02Plus.j1 (k + 1) (E a) (E b) x c i true = X → spec_l02Plus.l0 (k + 2) (E a) (E b) x c i = X := by
      intro X hX
      rw [spec_l02Plus.l0]
      by_cases h : (i : Int) < ((E a).length : Int)
      · rw [if_pos h]; exact hX
      · rw [if_neg h, if_pos (by omega)]; exact hX
    have hfin : ∀ T : Nat, T ≤ 33554431 → T = c + up (E a) i % 16777216 + up (E b) i % 16777216 →
        spec_l02Plus.j1 (k + 1) (E a) (E b) x c i true = spec_l02Plus.l0 k (E a) (E b) (x ++ [((T % 16777216 : Nat) : Int)]) ((T / 16777216 : Nat) : Int) ((i + 1 : Nat) : Int) →
        ∃ L, spec_l02Plus.l0 (k + 2) (E a) (E b) x c i = some L ∧ Dg 16777216 L ∧ L.length ≤ max (E a).length (E b).length + 1 ∧ vl 16777216 L = vl 16777216 x + (16777216 : Int) ^ i * ((c + up (E a) i + up (E b) i : Nat) : Int) := by
      intro T hT hTe hjj
      obtain ⟨L, e1, e2, e3, e4⟩ := ih k (i + 1) a b (x ++ [((T % 16777216 : Nat) : Int)]) (T / 16777216) (by omega) ha hb (by simp; omega) (by omega) (by omega) (hd.append (Dg.cons (by omega) (by omega) (Dg.nil _))) (by omega) (fun h => by omega)
      refine ⟨L, hj _ (hjj.trans e1), e2, e3, ?_⟩
      rw [e4, vl_snoc, hx, Int.pow_succ]
      have ua : up (E a) i = up (E a) i % 16777216 + 16777216 * up (E a) (i + 1) := by
        rw [up_div, up_div, Nat.pow_succ, ← Nat.div_div_eq_div_mul]; omega
      have ub : up (E b) i = up (E b) i % 16777216 + 16777216 * up (E b) (i + 1) := by
        rw [up_div, up_div, Nat.pow_succ, ← Nat.div_div_eq_div_mul]; omega
      have e5 : ((c + up (E a) i + up (E b) i : Nat) : Int) = ((T % 16777216 : Nat) : Int) + 16777216 * ((T / 16777216 + up (E a) (i + 1) + up (E b) (i + 1) : Nat) : Int) := by omega
      rw [e5]
      generalize ((T % 16777216 : Nat) : Int) = u
      generalize ((T / 16777216 + up (E a) (i + 1) + up (E b) (i + 1) : Nat) : Int) = v
      generalize (16777216 : Int) ^ i = p
      rw [Int.mul_add p u, Int.mul_assoc, Int.add_assoc]
    have hw : ∀ t : Nat, t ≤ 33554431 → wrap64 (t : Int) = t := fun t ht => w64 (by omega) (by omega)
    have hda : ∀ n : Nat, ¬ i < (E n).length → up (E n) i % 16777216 = 0 := fun n h => by rw [up_lt (by omega)]
    have hga : ∀ n : Nat, i < (E n).length → rd (E n) (i : Int) = ((up (E n) i % 16777216 : Nat) : Int) := fun n h => by
      obtain ⟨y, h1, h2, h3⟩ := up_next h
      rw [rd_getD, h1]
      omega
    have tfin : ∀ t : Nat, t ≤ 33554431 → Int.tmod (t : Int) 16777216 = ((t % 16777216 : Nat) : Int) ∧ wrap64 (Int.tdiv (t : Int) 16777216) = ((t / 16777216 : Nat) : Int) := fun t ht => by
      rw [Int.tmod_eq_emod_of_nonneg (by omega), Int.tdiv_eq_ediv_of_nonneg (by omega)]
      refine ⟨by omega, ?_⟩
      rw [w64 (by omega) (by omega)]
      omega
    have la := Nat.mod_lt (up (E a) i) (show 0 < 16777216 by omega)
    have lb := Nat.mod_lt (up (E b) i) (show 0 < 16777216 by omega)
    by_cases h : i < (E a).length
    · by_cases h2 : i < (E b).length
      · refine hfin (c + up (E a) i % 16777216 + up (E b) i % 16777216) (by omega) rfl ?_
        rw [spec_l02Plus.j1, if_pos rfl, if_pos (by omega), if_pos (by omega), if_pos (by omega), if_pos (by omega), hga a h, hga b h2, ← Int.natCast_add, hw _ (by omega), ← Int.natCast_add, hw _ (by omega), (tfin _ (by omega)).1, (tfin _ (by omega)).2, w64s i (by omega)]
      · refine hfin (c + up (E a) i % 16777216 + up (E b) i % 16777216) (by omega) rfl ?_
        rw [hda b h2]
        simp only [Nat.add_zero]
        rw [spec_l02Plus.j1, if_pos rfl, if_pos (by omega), if_pos (by omega), if_neg (by omega), if_pos (by omega), hga a h, ← Int.natCast_add, hw _ (by omega), (tfin _ (by omega)).1, (tfin _ (by omega)).2, w64s i (by omega)]
    · refine hfin (c + up (E a) i % 16777216 + up (E b) i % 16777216) (by omega) rfl ?_
      rw [hda a h]
      simp only [Nat.add_zero]
      rw [spec_l02Plus.j1, if_pos rfl, if_neg (by omega), if_pos (by omega), if_pos (by omega), if_pos (by omega), hga b (by omega), ← Int.natCast_add, hw _ (by omega), (tfin _ (by omega)).1, (tfin _ (by omega)).2, w64s i (by omega)]
theorem plus_f {k a b : Nat} (ha : (E a).length ≤ 1000) (hb : (E b).length ≤ 1000) (hk : 5000 ≤ k) : ∃ L, spec_l02Plus.f k (E a) (E b) = some L ∧ Dg 16777216 L ∧ L.length ≤ 1001 ∧ vl 16777216 L = ((a + b : Nat) : Int) := by
  unfold spec_l02Plus.f
  obtain ⟨L, h1, h2, h3, h4⟩ := plus_l0 (max (E a).length (E b).length) k 0 a b [] 0 (by omega) ha hb rfl (by omega) (by omega) (Dg.nil _) (by omega) (fun _ => by omega)
  refine ⟨L, h1, h2, by omega, ?_⟩
  rw [h4, up_E', up_E']
  simp [vl_nil]
theorem add_one {k n : Nat} (hl : (E n).length ≤ 1000) (hk : 5000 ≤ k) : spec_l02Add.f k (mkW 1 n).1 (mkW 1 n).2 1 [1] = some (mkW 1 (n + 1)) := by
  unfold spec_l02Add.f
  by_cases h : n = 0
  · have e : mkW 1 n = (0, []) := if_pos h
    rw [e, if_pos rfl, make_f (Dg.cons (by decide) (by decide) (Dg.nil _)) (by simp) (by simp; omega), h]
    rfl
  · have e : mkW 1 n = (1, E n) := if_neg h
    rw [e, if_neg (show ¬ ((1 : Int) = 0) by decide), if_neg (show ¬ ((1 : Int) = 0) by decide), if_pos rfl]
    obtain ⟨L, h1, h2, h3, h4⟩ := plus_f (k := k) (a := n) (b := 1) hl (by rw [E_one]; decide) hk
    rw [E_one] at h1
    rw [h1]
    simp only [Option.bind_some]
    rw [make_f h2 (by omega) (by omega), h4, Int.toNat_natCast]
    rfl
theorem bit_mkW {n i : Nat} {s : Int} (hl : (E n).length ≤ 1000) (hi : i ≤ 20000) : spec_l02Bit.f (mkW s n).1 (mkW s n).2 (i : Int) = some ((n / 2 ^ i % 2 : Nat) : Int) := by
  unfold mkW
  split
  · rename_i h
    subst h
    have := bit_f (n := 0) (i := i) (s := 0) (by rw [E_zero]; simp) hi
    rw [E_zero] at this
    exact this
  · exact bit_f hl hi
theorem multiple_f {k : Nat} {z e : Int} (hz : z ≠ 0) (ho : z.natAbs % 2 = 1) (hb : bits z.natAbs ≤ 2400) (he : -3000 ≤ e) (he2 : e ≤ 3000) (hk : 20000 ≤ k) :
    spec_l03Multiple.f k (cm z 0) (E z.natAbs) e 0 = some ((mkW 1 (rm z.natAbs e)).1, (mkW 1 (rm z.natAbs e)).2, rq z.natAbs e, decide (rq z.natAbs e ≤ e)) := by
  have hl := E_hundred.2 hb
  have hn : 0 < z.natAbs := by omega
  generalize hN : z.natAbs = n at ho hb hl hn ⊢
  have hbp := bits_pos hn
  unfold spec_l03Multiple.f
  have ha := abs_f (k := k) hz (by rw [hN]; omega) (by omega)
  rw [hN] at ha
  rw [ha, mkW_z1 n hn]
  simp only [Option.bind_some]
  rw [len_f (by omega) (by omega)]
  simp only [Option.bind_some]
  have hq : mx (wrap64 (wrap64 (((bits n : Nat) : Int) + e) - 24)) (-149) = rq n e := by
    rw [w64 (x := ((bits n : Nat) : Int) + e) (by omega) (by omega), w64 (by omega) (by omega)]
    unfold mx rq
    split <;> omega
  rw [hq]
  have hq1 : -149 ≤ rq n e ∧ rq n e ≤ 6000 := by unfold rq; omega
  generalize hQ : rq n e = q at hq1 ⊢
  rw [w64 (x := q - e) (by omega) (by omega)]
  by_cases hqe : q ≤ e
  · obtain ⟨sh, hsh⟩ : ∃ sh : Nat, e - q = sh := ⟨(e - q).toNat, by omega⟩
    rw [if_pos (by omega), show -(q - e) = (sh : Int) by omega, w64 (by omega) (by omega), left_f (by omega) (by omega) (by omega)]
    simp only [Option.bind_some]
    rw [decide_eq_true hqe, rm_exact (by rw [hQ]; exact hqe), hQ, hsh, Int.toNat_natCast]
  · obtain ⟨sh, hsh⟩ : ∃ sh : Nat, q - e = sh := ⟨(q - e).toNat, by omega⟩
    have hrm := rm_near (n := n) (e := e) (by rw [hQ]; exact hqe)
    rw [hQ, hsh, Int.toNat_natCast, rup_odd ho (by omega)] at hrm
    rw [if_neg (by omega), hsh, cut_f (by omega) (by omega) (by omega)]
    simp only [Option.bind_some]
    rw [if_pos trivial, w64 (x := (sh : Int) - 1) (by omega) (by omega), show (sh : Int) - 1 = ((sh - 1 : Nat) : Int) by omega, bit_f (by omega) (by omega)]
    simp only [Option.bind_some]
    rw [decide_eq_false hqe, hrm]
    obtain ⟨k, rfl⟩ : ∃ m, k = m + 1 := ⟨k - 1, by omega⟩
    have hlt : (E (n / 2 ^ sh)).length ≤ 1000 := Nat.le_trans (E_mono (Nat.div_le_self _ _)) (by omega)
    have hj1 : spec_l03Multiple.j0 (k + 1) q true (mkW 1 (n / 2 ^ sh)).1 (mkW 1 (n / 2 ^ sh)).2 = some ((mkW 1 (n / 2 ^ sh + 1)).1, (mkW 1 (n / 2 ^ sh + 1)).2, q, false) := by
      rw [spec_l03Multiple.j0, if_pos rfl, of_one (by omega)]
      simp only [Option.bind_some]
      rw [add_one hlt (by omega)]
      rfl
    have hj0 : spec_l03Multiple.j0 (k + 1) q false (mkW 1 (n / 2 ^ sh)).1 (mkW 1 (n / 2 ^ sh)).2 = some ((mkW 1 (n / 2 ^ sh + 0)).1, (mkW 1 (n / 2 ^ sh + 0)).2, q, false) := by
      rw [spec_l03Multiple.j0, if_neg (by decide)]
      rfl
    rcases Nat.mod_two_eq_zero_or_one (n / 2 ^ (sh - 1)) with hb0 | hb0
    · rw [hb0, if_neg (by decide), if_neg (by omega)]
      exact hj0
    · rw [hb0, if_pos (show ((1 : Nat) : Int) = 1 from rfl)]
      by_cases h1 : 1 < sh
      · rw [if_pos (by omega), if_pos ⟨rfl, .inl h1⟩]
        exact hj1
      · rw [if_neg (by omega), show (0 : Int) = ((0 : Nat) : Int) from rfl, bit_mkW hlt (by omega), Nat.pow_zero, Nat.div_one]
        simp only [Option.bind_some]
        rcases Nat.mod_two_eq_zero_or_one (n / 2 ^ sh) with h2 | h2
        · rw [h2, if_neg (by omega)]
          exact hj0
        · rw [h2]
          rw [if_pos ⟨trivial, .inr rfl⟩]
          exact hj1
end Go.Proofs.YtlogcnglmdpejaaGreatDoor.Hd
end
section
namespace Go.Proofs.YtlogcnglmdpejaaGreatDoor.Hd
open Ieee
theorem read_zero : double.read 0 = .number false 0 (-1074) := rfl
theorem sum_exact {m : Nat} {q : Int} (h0 : 0 < m) (h1 : m < 9007199254740992) (h2 : -1022 ≤ q + m.log2) (h3 : q + m.log2 ≤ 1023) :
    double.write (.number (if (signed false (m * 2 ^ (52 - m.log2)) (q + m.log2 - 52 - -1074).toNat) = 0 then false else decide ((signed false (m * 2 ^ (52 - m.log2)) (q + m.log2 - 52 - -1074).toNat) < 0)) (signed false (m * 2 ^ (52 - m.log2)) (q + m.log2 - 52 - -1074).toNat).natAbs (-1074)) = dword m q := by
  obtain ⟨_, a, b⟩ := sig_double h0 h1
  unfold signed
  simp only [Bool.false_eq_true, if_false, Nat.shiftLeft_eq]
  generalize hk : (q + m.log2 - 52 - -1074).toNat = k
  have hp := Nat.two_pow_pos k
  have hpos : 0 < m * 2 ^ (52 - m.log2) * 2 ^ k := Nat.mul_pos (by omega) hp
  generalize hM : m * 2 ^ (52 - m.log2) = M at a b hpos ⊢
  rw [if_neg (by omega), decide_eq_false (by omega), Int.natAbs_natCast]
  show double.nearest false (M * 2 ^ k) (-1074) = _
  rw [nearest_double_shift false a b (by omega) (by omega)]
  unfold dword Format.word
  simp only [Bool.false_eq_true, if_false]
  rw [hM]
  congr 2
  omega
theorem add_zero_left {m : Nat} {q : Int} (h0 : 0 < m) (h1 : m < 9007199254740992) (h2 : -1022 ≤ q + m.log2) (h3 : q + m.log2 ≤ 1023) : double.add 0 (dword m q) = some (dword m q) := by
  unfold Format.add
  rw [read_zero, read_dword h0 h1 h2 h3]
  simp only [Datum.sum, Option.map_some]
  have hm : min (-1074) (q + (m.log2 : Int) - 52) = -1074 := by omega
  have hz : ∀ k, signed false 0 k = 0 := fun k => by unfold signed; simp
  rw [hm, hz, Int.zero_add, ← sum_exact h0 h1 h2 h3]
  rfl
theorem add_zero_right {m : Nat} {q : Int} (h0 : 0 < m) (h1 : m < 9007199254740992) (h2 : -1022 ≤ q + m.log2) (h3 : q + m.log2 ≤ 1023) : double.add (dword m q) 0 = some (dword m q) := by
  unfold Format.add
  rw [read_zero, read_dword h0 h1 h2 h3]
  simp only [Datum.sum, Option.map_some]
  have hm : min (q + (m.log2 : Int) - 52) (-1074) = -1074 := by omega
  have hz : ∀ k, signed false 0 k = 0 := fun k => by unfold signed; simp
  rw [hm, hz, Int.add_zero, ← sum_exact h0 h1 h2 h3]
  rfl
theorem add_zero_zero : double.add 0 0 = some 0 := by rfl
theorem limb_step {P d : Nat} (h : P = 0 ∧ d < 16777216 ∨ P = 1 ∧ d = 0) : ∃ t, Go.floatBits .mul .f64 (Go.floatOfInt .f64 (P : Int)) 4715268809856909312 = some t ∧ Go.floatBits .add .f64 t (Go.floatOfInt .f64 (d : Int)) = some (Go.floatOfInt .f64 ((P * 16777216 + d : Nat) : Int)) := by
  have hz : Go.floatOfInt .f64 ((0 : Nat) : Int) = 0 := rfl
  rcases h with ⟨rfl, hd⟩ | ⟨rfl, rfl⟩
  · refine ⟨0, ?_, ?_⟩
    · rw [hz]
      exact zero_mul_pow (c := 1047) (by decide) (by decide)
    · rw [Nat.zero_mul, Nat.zero_add]
      rcases Nat.eq_zero_or_pos d with rfl | h0
      · exact add_zero_zero
      · have hl : d.log2 < 24 := (Nat.log2_lt (by omega)).2 hd
        rw [int_double h0 (by omega)]
        exact add_zero_left h0 (by omega) (by omega) (by omega)
  · have hl1 : Nat.log2 1 = 0 := by decide
    refine ⟨dword 1 24, ?_, ?_⟩
    · rw [int_double (by decide) (by decide)]
      have := mul_pow_dword (m := 1) (q := 0) (c := 1047) (by decide) (by decide) (by decide) (by decide) (by decide) (by decide) (by decide) (by decide)
      exact this
    · rw [hz, int_double (m := 1 * 16777216 + 0) (by decide) (by decide)]
      have e : dword (1 * 16777216 + 0) 0 = dword 1 24 := dword_top 0
      rw [e]
      exact add_zero_right (by decide) (by decide) (by rw [hl1]; omega) (by rw [hl1]; omega)
end Go.Proofs.YtlogcnglmdpejaaGreatDoor.Hd
end
section
namespace Go.Proofs.YtlogcnglmdpejaaGreatDoor.Hd
open Go.RowKit Go.Proofs.YtlogcnglmdpejaaGreatDoorW.PrintWords Go.Proofs.YtlogcnglmdpejaaGreatDoorW.PrintLast Go.Proofs.YtlogcnglmdpejaaGreatDoorW.PrintMore Go.Proofs.YtlogcnglmdpejaaGreatDoor.Pq
attribute [local go_sem] max2_int min2_int max_two min_two max_three min_three max_four min_four unary_negf
set_option linter.unusedVariables false
set_option linter.unusedSimpArgs false
set_option maxRecDepth 100000 in
theorem Huge_calls {w : World} : Calls Tryz.prog 268 #[] w fun e w' => e = .returned (.float .f32 2139095040) ∧ w = w' := by
  have hm := fun (W : World) => run_float_arith (P := Tryz.prog) W .mul 65 .f32 2137108966 1092616192 2139095040 (by kernel_rfl)
  go_enter Tryz.func268, Tryz.ntmps268
  go_wp2
  go_ret
  exact ⟨rfl, rfl⟩
set_option maxRecDepth 100000 in
theorem Over_calls {w : World} (s : Int) : Calls Tryz.prog 236 #[.int .i64 s, .int .i64 0] w fun e w' => (∃ x, e = .returned (.float .f32 x)) ∧ w = w' := by
  by_cases h : s < 0
  · have hd : decide (s < 0) = true := decide_eq_true h
    go_enter Tryz.func236, Tryz.ntmps236
    go_wp2_with fail
    refine Huge_calls.mono ?_
    rintro e w1 ⟨rfl, rfl⟩
    go_wp2_with fail
    go_ret
    exact ⟨⟨_, rfl⟩, rfl⟩
  · have hd : decide (s < 0) = false := decide_eq_false h
    go_enter Tryz.func236, Tryz.ntmps236
    go_wp2_with fail
    refine Huge_calls.mono ?_
    rintro e w1 ⟨rfl, rfl⟩
    go_wp2_with fail
    go_ret
    exact ⟨⟨_, rfl⟩, rfl⟩
set_option maxRecDepth 100000 in
theorem Turned_calls {w : World} {x : Nat} (h : x < 2139095040) : Calls Tryz.prog 191 #[.float .f32 x] w fun e w' => e = .returned (.float .f32 (2147483648 + x)) ∧ w = w' := by
  have hm := fun (W : World) => run_float_arith (P := Tryz.prog) W .mul 65 .f32 x 3212836864 (2147483648 + x) (mul_minus_one h)
  go_enter Tryz.func191, Tryz.ntmps191
  go_wp2
  go_ret
  exact ⟨rfl, rfl⟩
theorem mkW_snd (s : Int) (N : Nat) : (mkW s N).2 = E N := by
  unfold mkW
  split
  · rename_i h
    rw [h, E_zero]
  · rfl
set_option maxHeartbeats 1000000 in
theorem l03Round_zero {w : World} {A : Option Addr} {c n : Nat} {e : Int} : Calls Tryz.prog 190 #[.agg #[.int .i64 0, .slice A n c, .int .i64 e], .int .i64 0] w (RPost 0 e w) := by
  go_enter Tryz.func190, Tryz.ntmps190
  go_wp2_with fail
  go_ret2
  exact ⟨0, 0, rfl, ⟨rfl, rfl⟩, ba_ (Below.refl _ _) _⟩
set_option maxHeartbeats 4000000 in
set_option maxRecDepth 100000 in
theorem l03Round_some {w : World} {A : Option Addr} {c : Nat} {z e : Int} (hc : Kd.C (Kd.int .i64) w A (E z.natAbs).length (E z.natAbs)) (hlc : (E z.natAbs).length ≤ c) (hd : isD z e = true) (hz : z ≠ 0) :
    Calls Tryz.prog 190 #[.agg #[.int .i64 (cm z 0), .slice A (E z.natAbs).length c, .int .i64 e], .int .i64 0] w (RPost z e w) := by
  obtain ⟨hbb, he, he2, hod⟩ := isD_of hd
  have hMf := multiple_f (k := 30000) hz (hod hz) hbb he he2 (by decide)
  have hnp : 0 < z.natAbs := by omega
  have hLf := len_f (k := 30000) (n := z.natAbs) (s := cm z 0) (by have := E_hundred.2 hbb; omega) (by decide)
  obtain ⟨M, hM⟩ : ∃ M, rm z.natAbs e = M := ⟨_, rfl⟩
  obtain ⟨q, hq⟩ : ∃ q, rq z.natAbs e = q := ⟨_, rfl⟩
  have hMle : M ≤ 16777216 := by rw [← hM]; exact rm_le hnp
  have hq0 : -149 ≤ q := by rw [← hq]; exact rq_ge _ _
  have hq1 : q ≤ 5400 := by rw [← hq]; unfold rq; omega
  obtain ⟨lb, hlb⟩ : ∃ lb : Int, (bits M : Int) = lb := ⟨_, rfl⟩
  have hlb0 : 0 ≤ lb := by omega
  have hlb1 : lb ≤ 25 := by rw [← hlb]; exact Int.ofNat_le.2 (bits_le_iff.2 (Nat.lt_of_le_of_lt hMle (by decide)))
  have hEM : (E M).length ≤ 2 := E_le (by omega)
  have hLM := len_f (k := 30000) (n := M) (s := (mkW 1 M).1) (by omega) (by decide)
  rw [hM, hq, mkW_snd] at hMf
  obtain ⟨bq, hbq⟩ : ∃ b, decide (q ≤ e) = b := ⟨_, rfl⟩
  rw [hbq] at hMf
  have HBQ := As_.mk hbq
  clear hbq
  rw [hlb] at hLM
  obtain ⟨sM, hsM⟩ : ∃ x, (mkW 1 M).1 = x := ⟨_, rfl⟩
  rw [hsM] at hMf hLM
  obtain ⟨sgn, hsg⟩ : ∃ x, cm z 0 = x := ⟨_, rfl⟩
  obtain ⟨E0, hE⟩ : ∃ E0, E z.natAbs = E0 := ⟨_, rfl⟩
  obtain ⟨ln, hln⟩ : ∃ ln : Int, (bits z.natAbs : Int) = ln := ⟨_, rfl⟩
  have hln0 : 0 ≤ ln := by omega
  have hln1 : ln ≤ 2400 := by omega
  have hsz : (sgn == 0) = false := by
    rw [← hsg, beq_eq_false_iff_ne]
    rcases cm_pm z hz with h | h <;> rw [h] <;> decide
  rw [hsg, hE] at hMf hLf
  rw [hln] at hLf
  rw [hE] at hc hlc
  rw [hsg, hE]
  have HC := As_.mk hc
  have HL := As_.mk hlc
  have HMF := As_.mk hMf
  have HLF := As_.mk hLf
  have HLM := As_.mk hLM
  have HMM := As_.mk hM
  have HQ := As_.mk hq
  have HLB := As_.mk hlb
  have HML := As_.mk hMle
  have HEM := As_.mk hEM
  have HSG := As_.mk hsg
  clear hc hlc hMf hLf hLM hM hq hlb hMle hEM hsM hsg hE hln hd hbb hod hnp
  obtain ⟨L, hL⟩ : ∃ L, E M = L := ⟨_, rfl⟩
  rw [hL] at HMF HLM HEM
  have HLL := As_.mk hL
  clear hL
  go_enter Tryz.func190, Tryz.ntmps190
  go_wp2_with fail
  refine (spec_l03Multiple.calls 30000 sgn A c E0 e 0 _ _ _ _ _ (Kd.C_alloc HC.out _) HL.out HMF.out).mono ?_
  rintro e1 w1 ⟨v, rfl, hR, hb⟩
  obtain ⟨A1, c1, rfl⟩ := Kd.R_slice hR
  obtain ⟨_, hl1, hC1⟩ := Kd.R_reads' hR
  have hbA := (ba_ (Below.refl w.heap.size w) (.cells #[.int .i64 sgn, .slice A E0.length c, .int .i64 e] 56)).trans (hb.mono (by simp))
  have HB1 := As_.mk hbA
  have HBK1 := As_.mk ((hb.block w.heap.size (by simp)).trans (heap_alloc_new w _))
  have HC1 := As_.mk hC1
  have HL1 := As_.mk hl1
  have HC0 := As_.mk (Kd.C_below HC.out hbA)
  clear hb hbA hR hC1 hl1
  obtain ⟨N, hNN⟩ : ∃ N, w.heap.size = N := ⟨_, rfl⟩
  rw [hNN] at HBK1 ⊢
  have HN := As_.mk hNN
  clear hNN
  go_wp2_with fail
  refine (spec_l02Length.calls 30000 sM A1 c1 L lb _ (Kd.C_alloc HC1.out _) HL1.out HLM.out).mono ?_
  rintro e1 w2 ⟨rfl, hb⟩
  have hbB := (ba_ (Below.refl w1.heap.size w1) (.cells #[.int .i64 sM, .slice A1 L.length c1] 54)).trans (hb.mono (by simp))
  have hblk := (hbB.block N (heap_lt HBK1.out)).trans HBK1.out
  have hblk6 := (hb.block w1.heap.size (by simp)).trans (heap_alloc_new w1 _)
  have HB2 := As_.mk (HB1.out.trans (hbB.mono HB1.out.size))
  have HBK2 := As_.mk hblk
  have HBK6 := As_.mk hblk6
  have HC2 := As_.mk (Kd.C_below HC1.out hbB)
  have HC02 := As_.mk (Kd.C_below HC0.out hbB)
  have k0 := kc_ hblk 0
  have k1 := kc_ hblk 1
  have k2 := kc_ hblk 2
  have j0 := kc_ hblk6 0
  have j1 := kc_ hblk6 1
  simp only [List.getElem?_toArray, List.getElem?_cons_zero, List.getElem?_cons_succ] at k0 k1 k2 j0 j1
  clear hb hbB hblk hblk6
  generalize w1.heap.size = N6 at HBK6 j0 j1 ⊢
  by_cases hov : 128 < lb + q
  · go_wp2_with fail
    refine (Over_calls sgn).mono ?_
    rintro e1 w3 ⟨⟨x, rfl⟩, rfl⟩
    go_wp2_with fail
    go_ret2
    exact ⟨x, 5, rfl, RR_over hz (by rw [HMM.out, HLB.out, HQ.out]; exact hov) (by decide), HB2.out⟩
  · have hov2 : ¬ 128 < (bits z.natAbs : Int) + e := fun h => by
      have := rm_over (n := z.natAbs) (e := e) (by omega) h
      rw [HMM.out, HLB.out, HQ.out] at this
      exact hov this
    have hq2 : q ≤ 104 := by rw [← HQ.out]; unfold rq; omega
    obtain ⟨fa, fb, ha, _, hcall, hnar, hlt⟩ := ld_any (M := M) (q := q) HML.out hq0 hq2 (by rw [HLB.out]; omega)
    obtain ⟨x, hx⟩ : ∃ x, swd M q = x := ⟨_, rfl⟩
    rw [hx] at hnar hlt
    have HX := As_.mk hx
    have HFA := As_.mk ha
    have HCALL := As_.mk hcall
    have HLT := As_.mk hlt
    have hnr := fun (W : World) => run_convert_float_float (P := Tryz.prog) W 115 65 .f64 .f32 _ _ (by kernel_rfl) Tryz.underlying65 hnar
    have hRR : ∀ (X : Nat) (fl : Int), (q ≤ e → X = fz z e) → (q ≤ e → fl = 0) → (¬ q ≤ e → fl ≠ 0) → RR z e X fl := by
      intro X fl hX h1 h2
      have hnov : ¬ 128 < (bits (rm z.natAbs e) : Int) + rq z.natAbs e := by rw [HMM.out, HLB.out, HQ.out]; exact hov
      by_cases hqe : q ≤ e
      · exact RR_exact hz hnov (by rw [HQ.out]; exact hqe) (hX hqe) (h1 hqe)
      · exact RR_near hz (by rw [HQ.out]; exact hqe) (h2 hqe)
    have HRR := As_.mk hRR
    have HSW : As_ (q ≤ e → sword (rm z.natAbs e) (rq z.natAbs e) = x) := ⟨by
      intro h1
      obtain ⟨h2, h3⟩ := rm_exact_lt (n := z.natAbs) (e := e) (by omega) (by rw [HQ.out]; exact h1)
      rw [HMM.out] at h2 h3
      rw [HMM.out, HQ.out, ← HX.out, swd_mid h2 h3]⟩
    have hLi : (L.length : Int) ≤ 2 := by have := HEM.out; omega
    have h1 : IntKind.i64.wrap ((L.length : Int) - 1) = (L.length : Int) - 1 := by rw [i64_w, w64 (by omega) (by omega)]
    clear ha hcall hx hnar hlt hRR hov2
    go_wp2_with fail
    clear h1
    go_loop [9, 10] (fun s9 s10 => ∃ (j b : Nat), s10 = .int .i64 ((j : Int) - 1) ∧ s9 = .float .f64 b ∧ As_ (j ≤ L.length ∧ b = Go.floatOfInt .f64 ((M / 16777216 ^ j : Nat) : Int))) (fun _ i => (intOf i + 1).toNat)
    case atStart =>
      refine ⟨L.length, 0, rfl, rfl, ⟨Nat.le_refl _, ?_⟩⟩
      have := E_lt M
      rw [HLL.out] at this
      rw [Nat.div_eq_of_lt this]
      rfl
    case round =>
      obtain ⟨j, b, rfl, rfl, HJ⟩ := hrel
      rcases Nat.eq_zero_or_pos j with rfl | hj
      · have hb : b = fa := by rw [HJ.out.2, Nat.pow_zero, Nat.div_one, HFA.out]
        rw [hb, show (((0 : Nat) : Int) - 1) = -1 from rfl]
        clear hb HJ
        go_wp2_with fail
        refine (HCALL.out _).mono ?_
        rintro e1 w3 ⟨rfl, rfl⟩
        have HK2 := As_.mk k2
        go_upto_if 56 with fail
        go_cut [12] (fun s12 wx => ∃ fl : Int, s12 = .int .i64 fl ∧ As_ ((q ≤ e → fl = 0) ∧ (¬ q ≤ e → fl ≠ 0)) ∧ As_ (wx.heap[N]? = some (.cells #[.int .i64 sgn, .slice A E0.length c, .int .i64 e] 56 (0, 0)) ∧ Below w.heap.size w wx))
        case first =>
          cases bq
          rotate_left
          · have hqe := As_.mk (of_decide_eq_true HBQ.out)
            go_wp2_with fail
            go_meet
            exact ⟨0, rfl, ⟨⟨fun _ => rfl, fun h => by have := hqe.out; omega⟩⟩, ⟨⟨HBK2.out, HB2.out⟩⟩⟩
          · have hqe := As_.mk (of_decide_eq_false HBQ.out)
            go_upto_region 14 with fail
            go_region_with (first | (go_at_call 235; refine (spec_l02Length.calls 30000 sgn A c E0 ln _ (Kd.C_drew HC02.out) HL.out HLF.out).mono ?_; rintro e2 w4 ⟨rfl, hb⟩; have hblk := (hb.block N (heap_lt HBK2.out)).trans HBK2.out; have q2 := kc_ hblk 2; simp only [List.getElem?_toArray, List.getElem?_cons_zero, List.getElem?_cons_succ] at q2; have HBK4 := As_.mk hblk; have HB4 := As_.mk (HB2.out.trans ((below_undrew hb).mono HB2.out.size)); clear hb hblk))
            all_goals
              go_wp2_with fail
              all_goals
                go_meet
                exact ⟨_, rfl, ⟨⟨fun h => by have := hqe.out; omega, fun _ => by decide⟩⟩, ⟨⟨HBK4.out, HB4.out⟩⟩⟩
        case rest =>
          obtain ⟨fl, rfl, HFL, HW⟩ := hcut
          have i0 := kc_ HW.out.1 0
          simp only [List.getElem?_toArray, List.getElem?_cons_zero, List.getElem?_cons_succ] at i0
          by_cases hneg : sgn < 0
          · have hzn : z < 0 := by
              have := HSG.out
              unfold cm at this
              split at this
              · assumption
              · split at this <;> omega
            have HZN := As_.mk hzn
            clear hzn
            go_wp2_with fail
            refine (Turned_calls HLT.out).mono ?_
            rintro e2 w5 ⟨rfl, rfl⟩
            go_wp2_with fail
            go_ret2
            exact ⟨_, _, rfl, HRR.out _ _ (fun h => by unfold fz; rw [if_pos HZN.out, HSW.out h]) HFL.out.1 HFL.out.2, HW.out.2⟩
          · have hzn : ¬ z < 0 := by
              intro h
              have := HSG.out
              rw [cm_lt h] at this
              omega
            have HZN := As_.mk hzn
            clear hzn
            go_wp2_with fail
            go_ret2
            exact ⟨_, _, rfl, HRR.out _ _ (fun h => by unfold fz; rw [if_neg (by have := HZN.out; omega), HSW.out h]) HFL.out.1 HFL.out.2, HW.out.2⟩
      · obtain ⟨j', rfl⟩ : ∃ j', j = j' + 1 := ⟨j - 1, by omega⟩
        have hjl : j' < L.length := by have := HJ.out.1; omega
        have hjlE : j' < (E M).length := by rw [HLL.out]; exact hjl
        obtain ⟨y, hy, hy2, hup⟩ := up_next hjlE
        rw [HLL.out] at hy
        have hP : up (E M) (j' + 1) = M / 16777216 ^ (j' + 1) := up_div M (j' + 1)
        have hP0 : up (E M) j' = M / 16777216 ^ j' := up_div M j'
        have hcase : up (E M) (j' + 1) = 0 ∧ y < 16777216 ∨ up (E M) (j' + 1) = 1 ∧ y = 0 := by
          have hle : up (E M) j' ≤ 16777216 := by rw [hP0]; exact Nat.le_trans (Nat.div_le_self _ _) HML.out
          omega
        obtain ⟨t, ht1, ht2⟩ := limb_step hcase
        rw [show up (E M) (j' + 1) * 16777216 + y = M / 16777216 ^ j' by rw [← hP0, hup]; omega] at ht2
        rw [hP, ← HJ.out.2] at ht1
        obtain ⟨b', hb'⟩ : ∃ b' : Nat, Go.floatOfInt .f64 ((M / 16777216 ^ j' : Nat) : Int) = b' := ⟨_, rfl⟩
        rw [hb'] at ht2
        have hm1 := fun (W : World) => run_float_arith (P := Tryz.prog) W .mul 115 .f64 b 4715268809856909312 t ht1
        have hm2 := fun (W : World) => run_float_arith (P := Tryz.prog) W .add 115 .f64 t (Go.floatOfInt .f64 (y : Int)) b' ht2
        have hcv := fun (W : World) => run_convert_int_float (P := Tryz.prog) W 2 115 .i64 .f64 (y : Int) (by kernel_rfl) Tryz.underlying115
        rw [show (((j' + 1 : Nat) : Int) - 1) = (j' : Int) by omega]
        obtain ⟨ad, hA, hxx⟩ := Kd.at_int HC2.out (j' : Int) (by omega) (by omega)
        subst hA
        rw [rd_getD, hy, Int.toNat_natCast] at hxx
        have hw1 : IntKind.i64.wrap ((j' : Int) - 1) = (j' : Int) - 1 := by rw [i64_w, w64 (by omega) (by omega)]
        have hj0 : (0 : Int) ≤ (j' : Int) := by omega
        have hj1 : (j' : Int) < (L.length : Int) := by omega
        have HB' := As_.mk hb'
        have HJ' := As_.mk hjl
        clear ht1 ht2 hb' hP hP0 hcase hup hy2 hy hjlE hjl hj
        go_wp2_with fail
        go_round
        case rel => exact ⟨j', b', rfl, rfl, ⟨Nat.le_of_lt HJ'.out, HB'.out.symm⟩⟩
        case measure => simp [intOf]
end Go.Proofs.YtlogcnglmdpejaaGreatDoor.Hd
end
section
namespace Go.Proofs.YtlogcnglmdpejaaGreatDoor.Hd
open Go.RowKit Go.Proofs.YtlogcnglmdpejaaGreatDoorW.PrintWords Go.Proofs.YtlogcnglmdpejaaGreatDoorW.PrintLast Go.Proofs.YtlogcnglmdpejaaGreatDoorW.PrintMore Go.Proofs.YtlogcnglmdpejaaGreatDoor.Pq
attribute [local go_sem] max2_int min2_int max_two min_two max_three min_three max_four min_four
set_option linter.unusedVariables false
set_option linter.unusedSimpArgs false
theorem l03Round_calls {w : World} {A : Option Addr} {c : Nat} {z e : Int} (hc : Kd.C (Kd.int .i64) w A (E z.natAbs).length (E z.natAbs)) (hlc : (E z.natAbs).length ≤ c) (hd : isD z e = true) :
    Calls Tryz.prog 190 #[.agg #[.int .i64 (cm z 0), .slice A (E z.natAbs).length c, .int .i64 e], .int .i64 0] w (RPost z e w) := by
  by_cases hz : z = 0
  · subst hz
    exact l03Round_zero
  · exact l03Round_some hc hlc hd hz
set_option maxHeartbeats 1000000 in
theorem l06Float_calls {w : World} {s : ByteArray} (hs : s.size ≤ 1100000) : Calls Tryz.prog 139 #[.string s] w (PfPost s w) := by
  obtain ⟨a, l, b, hf, hv⟩ := rd3_f s hs
  have HF := As_.mk hf
  clear hs hf
  cases hr : rdy s with
  | none =>
    rw [hr] at HF
    have HR := As_.mk hr
    clear hr hv
    go_enter Tryz.func139, Tryz.ntmps139
    go_wp2_with fail
    refine (spec_l03Read.calls 10000000 s a l b false _ HF.out).mono ?_
    rintro e w1 ⟨v, rfl, hR, hb⟩
    obtain ⟨A, c, rfl⟩ := Kd.R_slice hR
    have HB := As_.mk hb
    clear hb hR
    go_wp2_with fail
    go_ret2
    have hok : pfOk s = false := by unfold pfOk; rw [HR.out]
    refine ⟨0, by rw [hok]; rfl, ?_, HB.out.alloc HB.out.size _⟩
    intro h
    rw [hok] at h
    cases h
  | some p =>
    obtain ⟨z, ex⟩ := p
    rw [hr] at HF
    obtain ⟨rfl, rfl, rfl⟩ := hv z ex hr
    have HR := As_.mk hr
    have HD := As_.mk (rdy_isD hr)
    obtain ⟨sgn, hsg⟩ : ∃ x, cm z 0 = x := ⟨_, rfl⟩
    obtain ⟨E0, hE⟩ : ∃ E0, E z.natAbs = E0 := ⟨_, rfl⟩
    rw [hsg, hE] at HF
    have HSG := As_.mk hsg
    have HE := As_.mk hE
    clear hr hv hsg hE
    go_enter Tryz.func139, Tryz.ntmps139
    go_wp2_with fail
    refine (spec_l03Read.calls 10000000 s sgn E0 b true _ HF.out).mono ?_
    rintro e w1 ⟨v, rfl, hR, hb⟩
    obtain ⟨A, c, rfl⟩ := Kd.R_slice hR
    obtain ⟨_, hlc, hC⟩ := Kd.R_reads' hR
    have HB := As_.mk hb
    have HC := As_.mk hC
    have HL := As_.mk hlc
    clear hb hR hC hlc
    go_wp2_with fail
    rw [← HE.out] at HC HL
    rw [← HSG.out, ← HE.out]
    refine (l03Round_calls (Kd.C_alloc HC.out _) HL.out HD.out).mono ?_
    rintro e w2 ⟨x, fl, rfl, hrr, hb⟩
    obtain ⟨h1, h2⟩ := RR_pf HR.out hrr
    have HPF := As_.mk h1
    have HPV := As_.mk h2
    have HB2 := As_.mk (((ba_ HB.out _).trans (hb.mono (by have := HB.out.size; simp; omega))))
    clear hrr hb h1 h2
    go_wp2_with fail
    go_ret2
    exact ⟨x, by rw [← HPF.out]; rfl, HPV.out, HB2.out⟩
end Go.Proofs.YtlogcnglmdpejaaGreatDoor.Hd
end
