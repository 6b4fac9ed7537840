/- Part 7 of the proof of the card of FnExactV: walks of the functions and plain facts on them. -/
import Derived.Test.YtlogcnglmdpejaaGreatDoorMV6
import Derived.Deep.RegionHeld3
import Derived.Lib.SliceRun
import Derived.LoopN
section
namespace Go.Proofs.YtlogcnglmdpejaaGreatDoor.Hd
open Go.RowKit Go.Proofs.YtlogcnglmdpejaaGreatDoorW.PrintWords Go.Proofs.YtlogcnglmdpejaaGreatDoorW.PrintLast Go.Proofs.YtlogcnglmdpejaaGreatDoorW.PrintMore Go.Proofs.YtlogcnglmdpejaaGreatDoor.Pq
attribute [local go_sem] max2_int min2_int max_two min_two max_three min_three max_four min_four
set_option linter.unusedVariables false
set_option linter.unusedSimpArgs false
def Gives (w : World) (n : Nat) (e : Ending) (w' : World) : Prop := ∃ A c, e = .returned (.slice A (D n).length c) ∧ (D n).length ≤ c ∧ Kd.C (Kd.int .u32) w' A (D n).length (D n) ∧ Below w.heap.size w w'
theorem gives_of {w w' : World} {ok : Nat → Prop} {v : Value} {n base : Nat} (hV : Kd.V (Kd.int .u32) 202 w' base ok v (D n)) (hb : Below w.heap.size w w') : Gives w n (.returned v) w' := by
  obtain ⟨A', c', rfl⟩ := Kd.V_slice hV
  obtain ⟨_, h2, h3⟩ := Kd.V_reads' hV
  exact ⟨A', c', rfl, h2, h3, hb⟩
theorem magLeft_calls {w : World} {m a1 : Nat} {A : Option Addr} {c : Nat} (hr : Kd.C (Kd.int .u32) w A (D m).length (D m)) (hc : (D m).length ≤ c) (hl : (D m).length ≤ 1000) (ha : a1 ≤ 100000) :
    Calls Tryz.prog 267 #[.slice A (D m).length c, .int .u64 a1] w (Gives w (m * 2 ^ a1)) := by
  refine (impl_magLeft.calls fuel A c (D m) a1 _ w hr hc (magLeft_f hl ha (by have := fuel_ge; omega))).mono ?_
  rintro e w' ⟨v, rfl, hV, hb⟩
  exact gives_of hV hb
theorem magRight_calls {w : World} {m a1 : Nat} {A : Option Addr} {c : Nat} (hr : Kd.C (Kd.int .u32) w A (D m).length (D m)) (hc : (D m).length ≤ c) (hl : (D m).length ≤ 100000) (ha : a1 ≤ 1000000) :
    Calls Tryz.prog 177 #[.slice A (D m).length c, .int .u64 a1] w (Gives w (m / 2 ^ a1)) := by
  refine (impl_magRight.calls fuel A c (D m) a1 _ w hr hc (magRight_f hl ha (by have := fuel_ge; omega))).mono ?_
  rintro e w' ⟨v, rfl, hV, hb⟩
  exact gives_of hV hb
theorem below_undrew {w w1 : World} (h : Below w.drew.heap.size w.drew w1) : Below w.heap.size w w1 := ⟨h.os, h.tape, h.output, h.size, h.block⟩
theorem D_val (n : Nat) : (vl 4294967296 (D n)).toNat = n := by rw [D_vl, Int.toNat_natCast]
theorem pow_len (n k : Nat) : (D (n * 2 ^ k)).length ≤ (D n).length + (k / 32 + 1) := by
  refine D_le ?_
  have h2 : 2 ^ k ≤ 4294967296 ^ (k / 32 + 1) := by
    rw [show 4294967296 = 2 ^ 32 from rfl, ← Nat.pow_mul]
    exact Nat.pow_le_pow_right (by decide) (by omega)
  rw [Nat.pow_add]
  exact Nat.mul_lt_mul_of_lt_of_le (D_lt n) h2 (Nat.pow_pos (by decide))
theorem mul_len {n k : Nat} (hl : (D n).length ≤ 1000) (hk : k ≤ 100000) : (D (n * 2 ^ k)).length ≤ 10000 := by
  have := pow_len n k
  omega
theorem sg_mul (z : Int) (k : Nat) : sg (decide (z < 0)) (z.natAbs * k) = z * k := by
  rcases Int.lt_or_le z 0 with h | h
  · rw [decide_eq_true h]
    show -((z.natAbs * k : Nat) : Int) = z * k
    rw [Int.natCast_mul, ← Int.neg_mul]
    congr 1
    omega
  · rw [decide_eq_false (by omega)]
    show ((z.natAbs * k : Nat) : Int) = z * k
    rw [Int.natCast_mul]
    congr 1
    omega
theorem sg_shl (z : Int) (n : Nat) : sg (decide (z < 0)) (vl 4294967296 (D (z.natAbs * 2 ^ n))).toNat = z * 2 ^ n := by
  rw [D_val, sg_mul, Int.natCast_pow]
  rfl
set_option maxHeartbeats 2000000 in
theorem Lsh_calls {w : World} {gz gx : Nat} {z : Int} {n : Nat} (hz : Ic w gz) (hx : Big w gx z) (hl : (D z.natAbs).length ≤ 1000) (hn : n ≤ 100000) :
    Calls Tryz.prog 231 #[.pointer (some ⟨gz, 0, none⟩), .pointer (some ⟨gx, 0, none⟩), .int .u64 n] w fun e w' => e = .returned (.pointer (some ⟨gz, 0, none⟩)) ∧ Big w' gz (z * 2 ^ n) ∧ w.grownBy w' (some gz) := by
  obtain ⟨A, c, k0, k1, hlc, hc⟩ := big_open hx
  have HLC := As_.mk hlc
  have HC := As_.mk hc
  have HL := As_.mk hl
  have HN := As_.mk hn
  have HZ := As_.mk hz
  have HX := As_.mk hx
  have hxl := hx.lt
  clear hx hz hlc hc hl hn
  go_enter Tryz.func231, Tryz.ntmps231
  go_wp2_with fail
  go_region_with (first
    | (go_at_call 267; refine (magLeft_calls (by first | exact HC.out | exact Kd.C_drew HC.out) HLC.out HL.out HN.out).mono ?_; rintro e w1 ⟨A1, c1, rfl, hl1, hc1, hb1⟩; have HL1 := As_.mk hl1; have HC1 := As_.mk hc1; have HB1 := As_.mk (below_undrew hb1); have s0 := (hb1.cell (p := ⟨gx, 0, none⟩) hxl).trans k0; clear hl1 hc1 hb1)
    | (go_at_call 176; refine (put_calls _ (HZ.out.below HB1.out) HC1.out HL1.out (D_dg _) (Nat.le_trans (mul_len HL.out HN.out) (by decide))).mono ?_; rintro e w2 ⟨rfl, hbig, hg⟩; have HBIG := As_.mk hbig; have HG := As_.mk hg; clear hbig hg))
  all_goals
    go_wp2_with fail
    go_ret
    exact ⟨rfl, (sg_shl z n) ▸ HBIG.out, grown_then (grown_below HB1.out gz) HG.out⟩
end Go.Proofs.YtlogcnglmdpejaaGreatDoor.Hd
end
section
namespace Go.Proofs.YtlogcnglmdpejaaGreatDoor.Pq
open Go.RowKit Go.Proofs.YtlogcnglmdpejaaGreatDoorW.PrintWords Go.Proofs.YtlogcnglmdpejaaGreatDoorW.PrintLast Go.Proofs.YtlogcnglmdpejaaGreatDoorW.PrintMore
attribute [local go_sem] max2_int min2_int max_two min_two max_three min_three max_four min_four
set_option linter.unusedVariables false
set_option linter.unusedSimpArgs false
def slices_Clone.f (l0 : List Int) : Option (List Int) := (some (([] : List Int) : List Int)).bind fun y112 => (if y112.length + l0.length < 17592186044416 then (some (y112 ++ l0)) else (none))
set_option maxHeartbeats 8000000 in
set_option maxRecDepth 100000 in
theorem slices_Clone.calls (A0 : Addr) (c0 : Nat) (l0 : List Int) (r : List Int) (w : World) (hr0 : Kd.C (Kd.int .u32) w (some A0) l0.length l0) (hc0 : l0.length ≤ c0) (h : slices_Clone.f l0 = some r) :
    Calls Tryz.prog 228 #[.slice (some A0) l0.length c0] w fun e w' => ∃ v0_ : Value, e = .returned (v0_) ∧ Kd.R (Kd.int .u32) 202 w' w.heap.size (fun _ => True) v0_ r ∧ Below w.heap.size w w' := by
  have HR0 := As_.mk hr0
  have HC0 := As_.mk hc0
  clear hr0 hc0
  have HB := As_.mk (Below.refl w.heap.size w)
  have H : ((some (([] : List Int) : List Int)).bind fun y112 => (if y112.length + l0.length < 17592186044416 then (some (y112 ++ l0)) else (none))) = some r := h
  clear h
  obtain ⟨y112, hy112⟩ : ∃ y_ : List Int, y_ = (([] : List Int)) := ⟨_, rfl⟩
  replace H : (if y112.length + l0.length < 17592186044416 then (some (y112 ++ l0)) else (none)) = some r := by first | (rw [hy112]; with_reducible exact H) | (have H2_ := (Option.bind_some _ _).symm.trans H; rw [hy112]; with_reducible exact H2_) | (have H2_ := (Option.bind_some _ _).symm.trans H; with_reducible exact H2_) | with_reducible exact H | (rw [hy112]; exact H) | exact H
  have Ny112 := As_.mk hy112
  clear hy112
  by_cases c2 : y112.length + l0.length < 17592186044416
  · rw [if_pos c2] at H
    have LMc2 := As_.mk c2
    clear c2
    obtain ⟨y115, hy115⟩ : ∃ y_ : List Int, y_ = (y112 ++ l0) := ⟨_, rfl⟩
    replace H : (some y115) = some r := by first | (rw [hy115]; with_reducible exact H) | (have H2_ := (Option.bind_some _ _).symm.trans H; rw [hy115]; with_reducible exact H2_) | (have H2_ := (Option.bind_some _ _).symm.trans H; with_reducible exact H2_) | with_reducible exact H | (rw [hy115]; exact H) | exact H
    have Ny115 := As_.mk hy115
    clear hy115
    obtain rfl := Option.some.inj H
    have hnil := fun (W : World) => Lib.run_eql_slice_nil (P := Tryz.prog) W 156 202 (some A0) l0.length c0 0 0 Tryz.underlying156
    go_enter Tryz.func228, Tryz.ntmps228
    go_wp2_with (first | ((with_reducible refine gate_dst (N := 5) rfl ?_); refine Kd.R_lit (Kd.int .u32) _ 202 ?hg (N := 5) ?hd (xs := ([] : List Int)) (inner := []) (ok := fun _ => True) (okp := fun _ => True) ?hr ?hp (fun _ hk => hk) trivial (Below.refl _ _) (Nat.le_refl _) (by simp) ?_; (case hd => rfl); (case hg => rfl); (case hr => first | (go_simp; done) | (go_simp; rfl)); (case hp => exact (Reps.none _ _)); intro v113 w3 ho4 hb hg_ hnew_; clear hg_ hnew_; (first | rw [← Ny112.out] at ho4 | (simp only [Int.reduceToNat] at ho4; rw [← Ny112.out] at ho4)); have n0_ := As_.mk (Kd.R_lower ho4 (bz_ (by repeat (first | (with_reducible first | exact HB.out | apply ba_ | apply pN_ | apply bd_) | exact HB.out)))); have n1_ := As_.mk (bp_ (by repeat (first | (with_reducible first | exact HB.out | apply ba_ | apply pN_ | apply bd_) | exact HB.out)) hb); clear HB; have HO114 := n0_; have HB := n1_; clear n0_ n1_; clear hb ho4) | ((with_reducible refine gate_builtin (b := .append) (xs := #[.tmp 5, .tmp 6]) rfl ?_); at_builtin; refine Kd.R_append_rows (Kd.int .u32) (w0 := w) w.heap.size rfl (.tmp 5) (.tmp 6) 156 202 (.int .u32 0) 4 rfl Tryz.underlying156 info202 rfl (by decide) (by omega) v113 y112 l0 _ _ _ (fun _ => True) (fun _ => False) rfl rfl ?aO ?aR (fun _ _ h => h) (fun _ h => h.elim) ?aF ?aB ?aS ?aL ?_; (case aR => repeat (first | exact (Kd.C_below HR0.out HB.out) | (with_reducible refine Kd.C_alloc ?_ _) | (with_reducible refine Kd.C_drewN ?_ _) | (with_reducible refine Kd.C_drew ?_))); (case aB => exact (by repeat (first | (with_reducible first | exact HB.out | apply ba_ | apply pN_ | apply bd_) | exact HB.out))); (case aF => exact (fun _ _ => trivial)); (case aO => exact (by (with_reducible repeat (first | apply Kd.R_alloc | apply Kd.R_drewN | apply Kd.R_drew)); exact HO114.out)); (case aS => exact (bz_ (by repeat (first | (with_reducible first | exact HB.out | apply ba_ | apply pN_ | apply bd_) | exact HB.out)))); (case aL => have := LMc2.out; omega); intro v116 w5 ho hb hg hat; rw [← Ny115.out] at ho; have n0_ := As_.mk (hb); have n1_ := As_.mk (ho); clear HB; clear HO114; have HB := n0_; have HO117 := n1_; clear n0_ n1_; clear ho hb hg hat))
    go_ret
    exact ⟨_, by first | rfl | (simp [eN_, eS_] <;> rfl) | (simp [*, eN_, eS_] <;> rfl), by (with_reducible repeat (first | apply Kd.R_alloc | apply Kd.R_drewN | apply Kd.R_drew)); exact HO117.out, by repeat (first | (with_reducible first | exact HB.out | apply ba_ | apply pN_ | apply bd_) | exact HB.out)⟩
  · rw [if_neg c2] at H
    exact absurd H (by simp)
end Go.Proofs.YtlogcnglmdpejaaGreatDoor.Pq
namespace Go.Proofs.YtlogcnglmdpejaaGreatDoor.Hd
open Go.Proofs.YtlogcnglmdpejaaGreatDoor.Pq
open Go.RowKit Go.Proofs.YtlogcnglmdpejaaGreatDoorW.PrintWords Go.Proofs.YtlogcnglmdpejaaGreatDoorW.PrintLast Go.Proofs.YtlogcnglmdpejaaGreatDoorW.PrintMore
attribute [local go_sem] max2_int min2_int max_two min_two max_three min_three max_four min_four
set_option linter.unusedVariables false
set_option linter.unusedSimpArgs false
theorem addDig1 (c x : Int) (hc : 0 ≤ c) (hc1 : c ≤ 1) (hx : 0 ≤ x) (hx1 : x < 4294967296) :
    ∃ v c' : Int, IntKind.u64.wrap (c + IntKind.u64.wrap x) % 4294967296 = v ∧ IntKind.u64.wrap (c + IntKind.u64.wrap x) / 4294967296 = c' ∧ 0 ≤ v ∧ v < 4294967296 ∧ 0 ≤ c' ∧ c' ≤ 1 ∧ c + x = v + 4294967296 * c' := by
  rw [u64w (x := x) (by omega) (by omega), u64w (x := c + x) (by omega) (by omega)]
  exact ⟨_, _, rfl, rfl, by omega, by omega, by omega, by omega, by omega⟩
theorem addDig2 (c x y : Int) (hc : 0 ≤ c) (hc1 : c ≤ 1) (hx : 0 ≤ x) (hx1 : x < 4294967296) (hy : 0 ≤ y) (hy1 : y < 4294967296) :
    ∃ v c' : Int, IntKind.u64.wrap (IntKind.u64.wrap (c + IntKind.u64.wrap x) + IntKind.u64.wrap y) % 4294967296 = v ∧ IntKind.u64.wrap (IntKind.u64.wrap (c + IntKind.u64.wrap x) + IntKind.u64.wrap y) / 4294967296 = c' ∧ 0 ≤ v ∧ v < 4294967296 ∧ 0 ≤ c' ∧ c' ≤ 1 ∧ c + x + y = v + 4294967296 * c' := by
  rw [u64w (x := x) (by omega) (by omega), u64w (x := y) (by omega) (by omega), u64w (x := c + x) (by omega) (by omega), u64w (x := c + x + y) (by omega) (by omega)]
  exact ⟨_, _, rfl, rfl, by omega, by omega, by omega, by omega, by omega⟩
theorem magAdd_l0 (m : Nat) : ∀ (k i : Nat) (a b x : List Int) (c : Int), a.length - i = m → i ≤ a.length → x.length = a.length + 1 → b.length ≤ a.length → a.length ≤ 100000 → 2000000 ≤ k →
    0 ≤ c → c ≤ 1 → Dg 4294967296 a → Dg 4294967296 b → Dg 4294967296 x →
    impl_magAdd.l0 (k + m) b x c a (a.length : Int) (i : Int) = some (D (vl 4294967296 (x.take i) + (4294967296 : Int) ^ i * (c + vl 4294967296 (a.drop i) + vl 4294967296 (b.drop i))).toNat) := by
  induction m with
  | zero =>
    intro k i a b x c hm hi hx hba hal hk hc0 hc1 ha hb hxd
    obtain rfl : i = a.length := by omega
    obtain ⟨k, rfl⟩ : ∃ m, k = m + 1 := ⟨k - 1, by omega⟩
    have hcm : c % 4294967296 = c := by omega
    have hd2 : Dg 4294967296 (x.set a.length c) := hxd.set _ hc0 (by omega)
    rw [Nat.add_zero, impl_magAdd.l0, if_neg (by omega), if_pos (by omega), hcm, magTrim_f (by simp; omega) (by simp; omega) hd2]
    simp only [Option.bind_some]
    have h1 := take_set_succ x a.length c (by omega)
    rw [List.take_of_length_le (by simp; omega)] at h1
    rw [h1, vl_snoc, List.length_take, Nat.min_eq_left (by omega), List.drop_of_length_le (Nat.le_refl _), List.drop_of_length_le hba, vl_nil, Int.add_zero, Int.add_zero]
  | succ m ih =>
    intro k i a b x c hm hi hx hba hal hk hc0 hc1 ha hb hxd
    have hlt : i < a.length := by omega
    obtain ⟨ha0, ha1⟩ := ha.getD (by omega) i
    obtain ⟨q, hq⟩ : ∃ q, k + m = q := ⟨_, rfl⟩
    rw [show k + (m + 1) = q + 1 by omega, impl_magAdd.l0, if_pos (by omega), if_pos (by omega), if_pos (by omega), w64s i (by omega), rd_getD, Int.toNat_natCast]
    by_cases hib : (i : Int) < (b.length : Int)
    · obtain ⟨hb0, hb1⟩ := hb.getD (by omega) i
      obtain ⟨v, c', e1, e2, hv0, hv1, hc0', hc1', hs⟩ := addDig2 c (a.getD i 0) (b.getD i 0) hc0 hc1 ha0 ha1 hb0 hb1
      rw [if_pos hib, if_pos (by omega), rd_getD, e1, e2, ← hq, ih k (i + 1) a b (x.set i v) c' (by omega) (by omega) (by simpa using hx) hba hal hk hc0' hc1' ha hb (hxd.set i hv0 hv1)]
      have hil : i < b.length := by omega
      have hix : i < x.length := by omega
      congr 3
      rw [take_set_succ x i v hix, vl_snoc, List.length_take, Nat.min_eq_left (Nat.le_of_lt hix), drop_getD a i hlt, drop_getD b i hil, vl_cons, vl_cons, Int.pow_succ]
      exact step_id _ _ _ _ _ _ (by omega)
    · obtain ⟨v, c', e1, e2, hv0, hv1, hc0', hc1', hs⟩ := addDig1 c (a.getD i 0) hc0 hc1 ha0 ha1
      have hix : i < x.length := by omega
      have hbi : b.length ≤ i := by omega
      rw [if_neg hib, if_pos (by omega), e1, e2, ← hq, ih k (i + 1) a b (x.set i v) c' (by omega) (by omega) (by simpa using hx) hba hal hk hc0' hc1' ha hb (hxd.set i hv0 hv1)]
      congr 3
      rw [take_set_succ x i v hix, vl_snoc, List.length_take, Nat.min_eq_left (Nat.le_of_lt hix), drop_getD a i hlt, List.drop_of_length_le hbi, List.drop_of_length_le (Nat.le_succ_of_le hbi), vl_cons, vl_nil, Int.pow_succ]
      exact step_id _ _ _ _ _ _ (by omega)
theorem magAdd_f0 {k m n : Nat} (hmn : (D n).length ≤ (D m).length) (hm : (D m).length ≤ 99999) (hk : 4000000 ≤ k) : impl_magAdd.f0 k (D m) (D n) = some (D (m + n)) := by
  unfold impl_magAdd.f0
  rw [w64s _ (by omega), if_pos (by omega), Int.toNat_natCast, if_pos (by omega)]
  have h := magAdd_l0 (D m).length (k - (D m).length) 0 (D m) (D n) (List.replicate ((D m).length + 1) 0) 0 (by omega) (by omega) (by simp) hmn (by omega) (by omega) (by omega) (by omega) (D_dg m) (D_dg n) (Dg.replicate (by omega) _)
  rw [show k - (D m).length + (D m).length = k by omega, show ((0 : Nat) : Int) = 0 from rfl] at h
  rw [h, List.take_zero, vl_nil, List.drop_zero, List.drop_zero, D_vl, D_vl, Int.pow_zero, Int.one_mul, Int.zero_add, Int.zero_add, ← Int.natCast_add, Int.toNat_natCast]
theorem magAdd_calls {w : World} {m n : Nat} {A0 A1 : Option Addr} {c0 c1 : Nat} (hr0 : Kd.C (Kd.int .u32) w A0 (D m).length (D m)) (hc0 : (D m).length ≤ c0) (hr1 : Kd.C (Kd.int .u32) w A1 (D n).length (D n)) (hc1 : (D n).length ≤ c1) (hm : (D m).length ≤ 99999) (hn : (D n).length ≤ 99999) :
    Calls Tryz.prog 179 #[.slice A0 (D m).length c0, .slice A1 (D n).length c1] w (Gives w (m + n)) := by
  by_cases h : (D m).length < (D n).length
  · refine (impl_magAdd.callsB fuel A0 c0 (D m) A1 c1 (D n) _ w hr0 hc0 hr1 hc1 h (magAdd_f0 (by omega) hn (by have := fuel_ge; omega))).mono ?_
    rintro e w' ⟨v, rfl, hV, hb⟩
    rw [Nat.add_comm] at hV
    exact gives_of hV hb
  · refine (impl_magAdd.callsA fuel A0 c0 (D m) A1 c1 (D n) _ w hr0 hc0 hr1 hc1 h (magAdd_f0 (by omega) hm (by have := fuel_ge; omega))).mono ?_
    rintro e w' ⟨v, rfl, hV, hb⟩
    exact gives_of hV hb
theorem magSub_calls {w : World} {m n : Nat} {A0 A1 : Option Addr} {c0 c1 : Nat} (hr0 : Kd.C (Kd.int .u32) w A0 (D m).length (D m)) (hc0 : (D m).length ≤ c0) (hr1 : Kd.C (Kd.int .u32) w A1 (D n).length (D n)) (hc1 : (D n).length ≤ c1) (hm : (D m).length ≤ 100000) (hmn : n ≤ m) :
    Calls Tryz.prog 178 #[.slice A0 (D m).length c0, .slice A1 (D n).length c1] w (Gives w (m - n)) := by
  refine (impl_magSub.calls fuel A0 c0 (D m) A1 c1 (D n) _ w hr0 hc0 hr1 hc1 (magSub_f hmn (by omega) (by have := fuel_ge; omega) (by unfold fuel; omega))).mono ?_
  rintro e w' ⟨v, rfl, hV, hb⟩
  exact gives_of hV hb
theorem magMul_calls {w : World} {m n : Nat} {A0 A1 : Option Addr} {c0 c1 : Nat} (hr0 : Kd.C (Kd.int .u32) w A0 (D m).length (D m)) (hc0 : (D m).length ≤ c0) (hr1 : Kd.C (Kd.int .u32) w A1 (D n).length (D n)) (hc1 : (D n).length ≤ c1) (hm : (D m).length ≤ 1000) (hn : (D n).length ≤ 1000) :
    Calls Tryz.prog 229 #[.slice A0 (D m).length c0, .slice A1 (D n).length c1] w (Gives w (m * n)) := by
  refine (impl_magMul.calls fuel A0 c0 (D m) A1 c1 (D n) _ w hr0 hc0 hr1 hc1 (magMul_f hm hn (by have := fuel_ge; omega))).mono ?_
  rintro e w' ⟨v, rfl, hV, hb⟩
  exact gives_of hV hb
theorem magCmp_calls {w : World} {m n : Nat} {A0 A1 : Option Addr} {c0 c1 : Nat} (hr0 : Kd.C (Kd.int .u32) w A0 (D m).length (D m)) (hc0 : (D m).length ≤ c0) (hr1 : Kd.C (Kd.int .u32) w A1 (D n).length (D n)) (hc1 : (D n).length ≤ c1) (hm : (D m).length ≤ 100000) (hn : (D n).length ≤ 100000) :
    Calls Tryz.prog 266 #[.slice A0 (D m).length c0, .slice A1 (D n).length c1] w fun e w' => e = .returned (.int .i64 (cm m n)) ∧ Below w.heap.size w w' := by
  refine (impl_magCmp.calls fuel A0 c0 (D m) A1 c1 (D n) _ w hr0 hc0 hr1 hc1 (magCmp_f (by omega) (by omega) (by have := fuel_ge; omega))).mono ?_
  rintro e w' ⟨rfl, hd⟩
  exact ⟨rfl, hd.below⟩
theorem Clone_nil (n c : Nat) (w : World) : Calls Tryz.prog 228 #[.slice none n c] w fun e w' => e = .returned (.slice none 0 0) ∧ w = w' := by
  have hnil := fun (W : World) => Lib.run_eql_slice_nil (P := Tryz.prog) W 156 202 none n c 0 0 Tryz.underlying156
  go_enter Tryz.func228, Tryz.ntmps228
  go_wp2
  go_ret
  exact ⟨rfl, rfl⟩
theorem Clone_calls {w : World} {m : Nat} {A : Option Addr} {c : Nat} (hr : Kd.C (Kd.int .u32) w A (D m).length (D m)) (hc : (D m).length ≤ c) (hm : (D m).length ≤ 100000) :
    Calls Tryz.prog 228 #[.slice A (D m).length c] w (Gives w m) := by
  rcases A with _ | ad
  · have h0 : (D m).length = 0 := by
      rcases Nat.eq_zero_or_pos (D m).length with h | h
      · exact h
      · obtain ⟨ad, e, _⟩ := hr.2.2 h
        cases e
    refine (Clone_nil _ _ w).mono ?_
    rintro e w' ⟨rfl, rfl⟩
    have hz : D m = [] := List.length_eq_zero_iff.1 h0
    exact ⟨none, 0, by rw [h0], by omega, by rw [hz]; exact Kd.C_nil _ _, Below.refl _ _⟩
  · refine (slices_Clone.calls ad c (D m) (D m) w hr hc (by unfold slices_Clone.f; simp; omega)).mono ?_
    rintro e w' ⟨v, rfl, hR, hb⟩
    obtain ⟨A, c', rfl, hl, hC⟩ := Kd.R_reads hR
    exact ⟨A, c', rfl, hl, hC, hb⟩
end Go.Proofs.YtlogcnglmdpejaaGreatDoor.Hd
end
section
namespace Go.Proofs.YtlogcnglmdpejaaGreatDoor.Hd
open Go.RowKit Go.Proofs.YtlogcnglmdpejaaGreatDoorW.PrintWords Go.Proofs.YtlogcnglmdpejaaGreatDoorW.PrintLast Go.Proofs.YtlogcnglmdpejaaGreatDoorW.PrintMore Go.Proofs.YtlogcnglmdpejaaGreatDoor.Pq
attribute [local go_sem] max2_int min2_int max_two min_two max_three min_three max_four min_four
set_option linter.unusedVariables false
set_option linter.unusedSimpArgs false
def Puts (w : World) (gz : Nat) (z : Int) (e : Ending) (w' : World) : Prop := e = .returned (.pointer (some ⟨gz, 0, none⟩)) ∧ Big w' gz z ∧ w.grownBy w' (some gz)
theorem puts_of {w w1 w2 : World} {gz : Nat} {z z' : Int} (hb : Below w.heap.size w w1) (hz : Big w2 gz z') (hg : w1.grownBy w2 (some gz)) (h : z' = z) : Puts w gz z (.returned (.pointer (some ⟨gz, 0, none⟩))) w2 :=
  ⟨rfl, h ▸ hz, grown_then (grown_below hb gz) hg⟩
theorem sg_D (b : Bool) (n : Nat) : sg b (vl 4294967296 (D n)).toNat = sg b n := by rw [D_val]
theorem put_D {w : World} {gz : Nat} (neg : Bool) {A : Option Addr} {c n : Nat} (hz : Ic w gz) (hr : Kd.C (Kd.int .u32) w A (D n).length (D n)) (hc : (D n).length ≤ c) (hl : (D n).length ≤ 100000) :
    Calls Tryz.prog 176 #[.pointer (some ⟨gz, 0, none⟩), .bool neg, .slice A (D n).length c] w (Puts w gz (sg neg n)) := by
  refine (put_calls neg hz hr hc (D_dg n) hl).mono ?_
  rintro e w' ⟨rfl, hb, hg⟩
  exact ⟨rfl, sg_D neg n ▸ hb, hg⟩
theorem sg_not (z : Int) : sg (!decide (z < 0)) z.natAbs = -z := by
  rcases Int.lt_or_le z 0 with h | h
  · rw [decide_eq_true h]
    show ((z.natAbs : Nat) : Int) = -z
    omega
  · rw [decide_eq_false (by omega)]
    show -((z.natAbs : Nat) : Int) = -z
    omega
set_option maxHeartbeats 2000000 in
theorem Neg_calls {w : World} {gz gx : Nat} {z : Int} (hz : Ic w gz) (hx : Big w gx z) (hl : (D z.natAbs).length ≤ 100000) :
    Calls Tryz.prog 182 #[.pointer (some ⟨gz, 0, none⟩), .pointer (some ⟨gx, 0, none⟩)] w (Puts w gz (-z)) := by
  obtain ⟨A, c, k0, k1, hlc, hc⟩ := big_open hx
  have HLC := As_.mk hlc
  have HC := As_.mk hc
  have HL := As_.mk hl
  have HZ := As_.mk hz
  have hxl := hx.lt
  clear hx hz hlc hc hl
  go_enter Tryz.func182, Tryz.ntmps182
  go_wp2_with fail
  go_region_with (first
    | (go_at_call 228; refine (Clone_calls (by first | exact HC.out | exact Kd.C_drew HC.out) HLC.out HL.out).mono ?_; rintro e w1 ⟨A1, c1, rfl, hl1, hc1, hb1⟩; have HL1 := As_.mk hl1; have HC1 := As_.mk hc1; have HB1 := As_.mk (below_undrew hb1); have s0 := (hb1.cell (p := ⟨gx, 0, none⟩) hxl).trans k0; clear hl1 hc1 hb1)
    | (go_at_call 176; refine (put_D _ (HZ.out.below HB1.out) HC1.out HL1.out HL.out).mono ?_; rintro e w2 ⟨rfl, hbig, hg⟩; have HBIG := As_.mk hbig; have HG := As_.mk hg; clear hbig hg))
  all_goals
    go_wp2_with fail
    go_ret
    exact puts_of HB1.out HBIG.out HG.out (sg_not z)
set_option maxHeartbeats 2000000 in
theorem Abs_calls {w : World} {gz gx : Nat} {z : Int} (hz : Ic w gz) (hx : Big w gx z) (hl : (D z.natAbs).length ≤ 100000) :
    Calls Tryz.prog 184 #[.pointer (some ⟨gz, 0, none⟩), .pointer (some ⟨gx, 0, none⟩)] w (Puts w gz z.natAbs) := by
  obtain ⟨A, c, k0, k1, hlc, hc⟩ := big_open hx
  have HLC := As_.mk hlc
  have HC := As_.mk hc
  have HL := As_.mk hl
  have HZ := As_.mk hz
  clear hx hz hlc hc hl
  go_enter Tryz.func184, Tryz.ntmps184
  go_wp2_with fail
  refine (Clone_calls HC.out HLC.out HL.out).mono ?_
  rintro e w1 ⟨A1, c1, rfl, hl1, hc1, hb1⟩
  have HL1 := As_.mk hl1
  have HC1 := As_.mk hc1
  have HB1 := As_.mk hb1
  clear hl1 hc1 hb1
  go_wp2_with fail
  refine (put_D _ (HZ.out.below HB1.out) HC1.out HL1.out HL.out).mono ?_
  rintro e w2 ⟨rfl, hbig, hg⟩
  have HBIG := As_.mk hbig
  have HG := As_.mk hg
  clear hbig hg
  go_wp2_with fail
  go_ret
  exact puts_of HB1.out HBIG.out HG.out rfl
theorem plus_same {X : Int} {neg : Bool} {n : Nat} (h : decide (X < 0) = neg) : sg neg (X.natAbs + n) = X + sg neg n := by
  have h1 := sg_of X
  rw [h] at h1
  unfold sg at h1 ⊢
  cases neg
  · simp only [if_neg Bool.false_ne_true] at h1 ⊢
    omega
  · simp only [if_true] at h1 ⊢
    omega
theorem plus_ge {X : Int} {neg : Bool} {n : Nat} (h : ¬ decide (X < 0) = neg) (hn : n ≤ X.natAbs) : sg (decide (X < 0)) (X.natAbs - n) = X + sg neg n := by
  have h1 := sg_of X
  generalize decide (X < 0) = b at h h1 ⊢
  unfold sg at h1 ⊢
  cases neg <;> cases b <;> first | exact absurd rfl h | skip
  · simp only [if_neg Bool.false_ne_true, if_true] at h1 ⊢
    omega
  · simp only [if_neg Bool.false_ne_true, if_true] at h1 ⊢
    omega
theorem plus_lt {X : Int} {neg : Bool} {n : Nat} (h : ¬ decide (X < 0) = neg) (hn : X.natAbs < n) : sg neg (n - X.natAbs) = X + sg neg n := by
  have h1 := sg_of X
  generalize decide (X < 0) = b at h h1 ⊢
  unfold sg at h1 ⊢
  cases neg <;> cases b <;> first | exact absurd rfl h | skip
  · simp only [if_neg Bool.false_ne_true, if_true] at h1 ⊢
    omega
  · simp only [if_neg Bool.false_ne_true, if_true] at h1 ⊢
    omega
theorem add_len {m n L : Nat} (hm : (D m).length ≤ L) (hn : (D n).length ≤ L) : (D (m + n)).length ≤ L + 1 := by
  refine D_le ?_
  have h1 := D_lt m
  have h2 := D_lt n
  generalize hB : 4294967296 = B at h1 h2 ⊢
  have hB0 : 0 < B := by omega
  have hB2 : 2 ≤ B := by omega
  have h3 := Nat.pow_le_pow_right hB0 hm
  have h4 := Nat.pow_le_pow_right hB0 hn
  rw [Nat.pow_succ]
  generalize B ^ L = P at h3 h4 ⊢
  have h5 : P * 2 ≤ P * B := Nat.mul_le_mul_left _ hB2
  omega
set_option maxHeartbeats 4000000 in
theorem plus_calls {w : World} {gz gx : Nat} {X : Int} (neg : Bool) {n : Nat} {A : Option Addr} {c : Nat} (hz : Ic w gz) (hx : Big w gx X) (hl : (D X.natAbs).length ≤ 50000) (hr : Kd.C (Kd.int .u32) w A (D n).length (D n)) (hc : (D n).length ≤ c) (hn : (D n).length ≤ 50000) :
    Calls Tryz.prog 230 #[.pointer (some ⟨gz, 0, none⟩), .pointer (some ⟨gx, 0, none⟩), .bool neg, .slice A (D n).length c] w (Puts w gz (X + sg neg n)) := by
  obtain ⟨Ax, cx, k0, k1, hlcx, hcx⟩ := big_open hx
  have HC := As_.mk hr
  have HLC := As_.mk hc
  have HN := As_.mk hn
  have HZ := As_.mk hz
  have hxl := hx.lt
  obtain ⟨p, hp⟩ : ∃ p, X.natAbs = p := ⟨_, rfl⟩
  rw [hp] at k1 hlcx hcx hl
  have HP := As_.mk hp
  have HLX := As_.mk hlcx
  have HCX := As_.mk hcx
  have HL := As_.mk hl
  have hl9 : (D p).length ≤ 99999 := by omega
  have hn9 : (D n).length ≤ 99999 := by omega
  have HL9 := As_.mk hl9
  have HN9 := As_.mk hn9
  clear hx hz hlcx hcx hl hr hc hn hl9 hn9 hp
  by_cases hs : decide (X < 0) = neg
  · have HS : As_ (sg neg (p + n) = X + sg neg n) := ⟨by rw [← HP.out]; exact plus_same hs⟩
    have hbeq : (decide (X < 0) == neg) = true := by rw [hs]; exact beq_self_eq_true _
    have hln := add_len HL.out HN.out
    have HLN := As_.mk hln
    clear hs hln
    go_enter Tryz.func230, Tryz.ntmps230
    go_wp2_with fail
    refine (magAdd_calls HCX.out HLX.out HC.out HLC.out HL9.out HN9.out).mono ?_
    rintro e w1 ⟨A1, c1, rfl, hl1, hc1, hb1⟩
    have HL1 := As_.mk hl1
    have HC1 := As_.mk hc1
    have HB1 := As_.mk hb1
    clear hl1 hc1 hb1
    go_wp2_with fail
    refine (put_D _ (HZ.out.below HB1.out) HC1.out HL1.out (Nat.le_trans HLN.out (by decide))).mono ?_
    rintro e w2 ⟨rfl, hbig, hg⟩
    have HBIG := As_.mk hbig
    have HG := As_.mk hg
    clear hbig hg
    go_wp2_with fail
    go_ret
    exact puts_of HB1.out HBIG.out HG.out HS.out
  · have hbeq : (decide (X < 0) == neg) = false := beq_eq_false_iff_ne.2 hs
    have H0 := As_.mk hs
    clear hs
    by_cases hge : n ≤ p
    · have hcm : decide (0 ≤ cm (p : Int) (n : Int)) = true := by
        refine decide_eq_true ?_
        rcases Nat.lt_or_eq_of_le hge with h | h
        · rw [cm_gt (by omega)]; decide
        · rw [← h, cm_self]; decide
      have HS : As_ (sg (decide (X < 0)) (p - n) = X + sg neg n) := ⟨by rw [← HP.out]; exact plus_ge H0.out (by rw [HP.out]; exact hge)⟩
      have HGE := As_.mk hge
      have hln : (D (p - n)).length ≤ 100000 := Nat.le_trans (D_mono (Nat.sub_le _ _)) (Nat.le_trans HL.out (by decide))
      have HLN := As_.mk hln
      clear hge hln
      go_enter Tryz.func230, Tryz.ntmps230
      go_wp2_with fail
      refine (magCmp_calls HCX.out HLX.out HC.out HLC.out (Nat.le_trans HL.out (by decide)) (Nat.le_trans HN.out (by decide))).mono ?_
      rintro e w0 ⟨rfl, hb0⟩
      have HB0 := As_.mk hb0
      have q0 := (hb0.cell (p := ⟨gx, 0, none⟩) hxl).trans k0
      have q1 := (hb0.cell (p := ⟨gx, 1, none⟩) hxl).trans k1
      have hxl0 : gx < w0.heap.size := Nat.lt_of_lt_of_le hxl hb0.size
      have HC0 := As_.mk (Kd.C_below HC.out hb0)
      have HCX0 := As_.mk (Kd.C_below HCX.out hb0)
      have HZ0 := As_.mk (HZ.out.below hb0)
      clear hb0 k0 k1
      go_wp2_with fail
      go_region_with (first
        | (go_at_call 178; refine (magSub_calls (by first | exact HCX0.out | exact Kd.C_drew HCX0.out) HLX.out (by first | exact HC0.out | exact Kd.C_drew HC0.out) HLC.out (Nat.le_trans HL.out (by decide)) HGE.out).mono ?_; rintro e w1 ⟨A1, c1, rfl, hl1, hc1, hb1⟩; have HL1 := As_.mk hl1; have HC1 := As_.mk hc1; have HB1 := As_.mk (below_undrew hb1); have s0 := (hb1.cell (p := ⟨gx, 0, none⟩) hxl0).trans q0; clear hl1 hc1 hb1)
        | (go_at_call 176; refine (put_D _ (HZ0.out.below HB1.out) HC1.out HL1.out HLN.out).mono ?_; rintro e w2 ⟨rfl, hbig, hg⟩; have HBIG := As_.mk hbig; have HG := As_.mk hg; clear hbig hg))
      all_goals
        go_wp2_with fail
        go_ret
        exact puts_of (bp_ HB0.out HB1.out) HBIG.out HG.out HS.out
    · have hlt : p < n := by omega
      have hcm : decide (0 ≤ cm (p : Int) (n : Int)) = false := by
        refine decide_eq_false ?_
        rw [cm_lt (by omega)]
        decide
      have HS : As_ (sg neg (n - p) = X + sg neg n) := ⟨by rw [← HP.out]; exact plus_lt H0.out (by rw [HP.out]; exact hlt)⟩
      have HGE := As_.mk (Nat.le_of_lt hlt)
      have hln : (D (n - p)).length ≤ 100000 := Nat.le_trans (D_mono (Nat.sub_le _ _)) (Nat.le_trans HN.out (by decide))
      have HLN := As_.mk hln
      clear hge hln hlt
      go_enter Tryz.func230, Tryz.ntmps230
      go_wp2_with fail
      refine (magCmp_calls HCX.out HLX.out HC.out HLC.out (Nat.le_trans HL.out (by decide)) (Nat.le_trans HN.out (by decide))).mono ?_
      rintro e w0 ⟨rfl, hb0⟩
      have HB0 := As_.mk hb0
      have q0 := (hb0.cell (p := ⟨gx, 0, none⟩) hxl).trans k0
      have q1 := (hb0.cell (p := ⟨gx, 1, none⟩) hxl).trans k1
      have HC0 := As_.mk (Kd.C_below HC.out hb0)
      have HCX0 := As_.mk (Kd.C_below HCX.out hb0)
      have HZ0 := As_.mk (HZ.out.below hb0)
      clear hb0 k0 k1
      go_wp2_with fail
      refine (magSub_calls HC0.out HLC.out HCX0.out HLX.out (Nat.le_trans HN.out (by decide)) HGE.out).mono ?_
      rintro e w1 ⟨A1, c1, rfl, hl1, hc1, hb1⟩
      have HL1 := As_.mk hl1
      have HC1 := As_.mk hc1
      have HB1 := As_.mk hb1
      clear hl1 hc1 hb1
      go_wp2_with fail
      refine (put_D _ (HZ0.out.below HB1.out) HC1.out HL1.out HLN.out).mono ?_
      rintro e w2 ⟨rfl, hbig, hg⟩
      have HBIG := As_.mk hbig
      have HG := As_.mk hg
      clear hbig hg
      go_wp2_with fail
      go_ret
      exact puts_of (bp_ HB0.out HB1.out) HBIG.out HG.out HS.out
theorem puts_drew {w w2 : World} {gz : Nat} {z z' : Int} {e : Ending} (h : Puts w.drew gz z' e w2) (hz : z' = z) : Puts w gz z e w2 := by
  obtain ⟨h1, h2, h3⟩ := h
  exact ⟨h1, hz ▸ h2, h3.os, h3.tape, h3.output, h3.size, h3.block⟩
theorem big_drew {w : World} {g : Nat} {z : Int} (h : Big w g z) : Big w.drew g z := h
theorem ic_drew {w : World} {g : Nat} (h : Ic w g) : Ic w.drew g := h
set_option maxHeartbeats 2000000 in
theorem Add_calls {w : World} {gz gx gy : Nat} {X Y : Int} (hz : Ic w gz) (hx : Big w gx X) (hy : Big w gy Y) (hlx : (D X.natAbs).length ≤ 50000) (hly : (D Y.natAbs).length ≤ 50000) :
    Calls Tryz.prog 185 #[.pointer (some ⟨gz, 0, none⟩), .pointer (some ⟨gx, 0, none⟩), .pointer (some ⟨gy, 0, none⟩)] w (Puts w gz (X + Y)) := by
  obtain ⟨A, c, k0, k1, hlc, hc⟩ := big_open hy
  have HLC := As_.mk hlc
  have HC := As_.mk hc
  have HX := As_.mk hx
  have HZ := As_.mk hz
  have HLX := As_.mk hlx
  have HLY := As_.mk hly
  clear hx hz hy hlc hc hlx hly
  go_enter Tryz.func185, Tryz.ntmps185
  go_wp2_with fail
  go_region_with (first | (go_at_call 230; refine (plus_calls _ (ic_drew HZ.out) (big_drew HX.out) HLX.out (Kd.C_drew HC.out) HLC.out HLY.out).mono ?_; rintro e w2 hp; have HP := As_.mk hp; have he := hp.1; clear hp; subst he))
  all_goals
    go_wp2_with fail
    go_ret
    exact puts_drew HP.out (by rw [sg_of])
set_option maxHeartbeats 2000000 in
theorem Sub_calls {w : World} {gz gx gy : Nat} {X Y : Int} (hz : Ic w gz) (hx : Big w gx X) (hy : Big w gy Y) (hlx : (D X.natAbs).length ≤ 50000) (hly : (D Y.natAbs).length ≤ 50000) :
    Calls Tryz.prog 263 #[.pointer (some ⟨gz, 0, none⟩), .pointer (some ⟨gx, 0, none⟩), .pointer (some ⟨gy, 0, none⟩)] w (Puts w gz (X - Y)) := by
  obtain ⟨A, c, k0, k1, hlc, hc⟩ := big_open hy
  have HLC := As_.mk hlc
  have HC := As_.mk hc
  have HX := As_.mk hx
  have HZ := As_.mk hz
  have HLX := As_.mk hlx
  have HLY := As_.mk hly
  clear hx hz hy hlc hc hlx hly
  go_enter Tryz.func263, Tryz.ntmps263
  go_wp2_with fail
  go_region_with (first | (go_at_call 230; refine (plus_calls _ (ic_drew HZ.out) (big_drew HX.out) HLX.out (Kd.C_drew HC.out) HLC.out HLY.out).mono ?_; rintro e w2 hp; have HP := As_.mk hp; have he := hp.1; clear hp; subst he))
  all_goals
    go_wp2_with fail
    go_ret
    exact puts_drew HP.out (by rw [sg_not]; omega)
theorem prod_len {m n a b : Nat} (hm : (D m).length ≤ a) (hn : (D n).length ≤ b) : (D (m * n)).length ≤ a + b := by
  refine D_le ?_
  rw [Nat.pow_add]
  have h1 := Nat.lt_of_lt_of_le (D_lt m) (Nat.pow_le_pow_right (by decide) hm)
  have h2 := Nat.lt_of_lt_of_le (D_lt n) (Nat.pow_le_pow_right (by decide) hn)
  exact Nat.mul_lt_mul_of_lt_of_le h1 (Nat.le_of_lt h2) (Nat.pow_pos (by decide))
theorem C_new (w : World) (ds : List Int) (cs : Array Value) (hcs : cs.toList = ds.map (Value.int .u32)) (hl : ds.length ≤ 100000) : Kd.C (Kd.int .u32) (w.alloc (.cells cs 202)) (some ⟨w.heap.size, 0, none⟩) ds.length ds := by
  refine Kd.C_of_reads (d := 0) ⟨rfl, by omega, fun _ => ⟨_, rfl, fun j hj => ?_⟩⟩
  have hb : (w.alloc (.cells cs 202)).heap[w.heap.size]? = some (.cells cs 202 (0, 0)) := heap_alloc_new w _
  rw [add_plain, kc_ hb]
  have : cs[j]? = cs.toList[j]? := by simp
  rw [this, hcs, List.getElem?_map, List.getD_eq_getElem?_getD, List.getElem?_eq_getElem hj]
  rfl
theorem new_ic (w : World) : Ic (w.alloc (.cells #[.bool false, .slice none 0 0] 158)) w.heap.size := ⟨_, _, _, _, heap_alloc_new w _⟩
theorem set_val (n : Int) (h0 : -9223372036854775808 ≤ n) (h1 : n ≤ 9223372036854775807) (u : Int) (hu : u = if n < 0 then -n else n) :
    sg (decide (n < 0)) (vl 4294967296 [u % 4294967296, u / 4294967296 % 4294967296]).toNat = n := by
  have hv : vl 4294967296 [u % 4294967296, u / 4294967296 % 4294967296] = u := by
    simp only [vl_cons, vl_nil]
    split at hu <;> omega
  rw [hv]
  unfold sg
  split at hu
  · rename_i h
    rw [decide_eq_true h]
    simp only [if_true]
    omega
  · rename_i h
    rw [decide_eq_false h]
    simp only [if_neg Bool.false_ne_true]
    omega
set_option maxHeartbeats 1000000 in
theorem SetInt64_calls {w : World} {gz : Nat} (n : Int) (hz : Ic w gz) (h0 : -9223372036854775808 ≤ n) (h1 : n ≤ 9223372036854775807) :
    Calls Tryz.prog 172 #[.pointer (some ⟨gz, 0, none⟩), .int .i64 n] w (Puts w gz n) := by
  have HZ := As_.mk hz
  have H0 := As_.mk h0
  have H1 := As_.mk h1
  clear hz h0 h1
  by_cases hn : n < 0
  · have hb : decide (n < 0) = true := decide_eq_true hn
    obtain ⟨u0, hu0⟩ : ∃ u0, IntKind.u64.wrap n = u0 := ⟨_, rfl⟩
    obtain ⟨u, hu⟩ : ∃ u, IntKind.u64.wrap (-u0) = u := ⟨_, rfl⟩
    have hun : u = -n := by
      rw [← hu, ← hu0, u64w_eq, u64w_eq]
      have := H0.out
      omega
    have HU := As_.mk (set_val n H0.out H1.out u (by rw [if_pos hn]; exact hun))
    rw [hb] at HU
    have hur : 0 ≤ u := by omega
    clear hun hn
    go_enter Tryz.func172, Tryz.ntmps172
    go_wp2_with fail
    refine (put_calls (w := w.alloc (.cells #[.int .u32 (u % 4294967296), .int .u32 (u / 4294967296 % 4294967296)] 202)) (ds := [u % 4294967296, u / 4294967296 % 4294967296]) true (HZ.out.below (ba_ (Below.refl _ _) _)) (C_new w _ _ rfl (by simp)) (Nat.le_refl _) (Dg.cons (by omega) (by omega) (Dg.cons (by omega) (by omega) (Dg.nil _))) (by simp)).mono ?_
    rintro e w2 ⟨rfl, hbig, hg⟩
    have HBIG := As_.mk hbig
    have HG := As_.mk hg
    clear hbig hg
    go_wp2_with fail
    go_ret
    exact puts_of (ba_ (Below.refl _ _) _) HBIG.out HG.out HU.out
  · have hb : decide (n < 0) = false := decide_eq_false hn
    obtain ⟨u, hu⟩ : ∃ u, IntKind.u64.wrap n = u := ⟨_, rfl⟩
    have hun : u = n := by
      rw [← hu, u64w_eq]
      have := H1.out
      omega
    have HU := As_.mk (set_val n H0.out H1.out u (by rw [if_neg hn]; exact hun))
    rw [hb] at HU
    have hur : 0 ≤ u := by omega
    clear hun hn
    go_enter Tryz.func172, Tryz.ntmps172
    go_wp2_with fail
    refine (put_calls (w := w.alloc (.cells #[.int .u32 (u % 4294967296), .int .u32 (u / 4294967296 % 4294967296)] 202)) (ds := [u % 4294967296, u / 4294967296 % 4294967296]) false (HZ.out.below (ba_ (Below.refl _ _) _)) (C_new w _ _ rfl (by simp)) (Nat.le_refl _) (Dg.cons (by omega) (by omega) (Dg.cons (by omega) (by omega) (Dg.nil _))) (by simp)).mono ?_
    rintro e w2 ⟨rfl, hbig, hg⟩
    have HBIG := As_.mk hbig
    have HG := As_.mk hg
    clear hbig hg
    go_wp2_with fail
    go_ret
    exact puts_of (ba_ (Below.refl _ _) _) HBIG.out HG.out HU.out
def News (w : World) (n : Int) (e : Ending) (w' : World) : Prop := e = .returned (.pointer (some ⟨w.heap.size, 0, none⟩)) ∧ Big w' w.heap.size n ∧ Below w.heap.size w w'
theorem news_of {w w2 : World} {z : Int} {o : Obj} (hz : Big w2 w.heap.size z) (hg : (w.alloc o).grownBy w2 (some w.heap.size)) : News w z (.returned (.pointer (some ⟨w.heap.size, 0, none⟩))) w2 :=
  have hb := ba_ (Below.refl w.heap.size w) o
  ⟨rfl, hz, hg.os.trans hb.os, hg.tape.trans hb.tape, hg.output.trans hb.output, Nat.le_trans hb.size hg.size, fun k hk => (hg.block k (Nat.lt_of_lt_of_le hk hb.size) (by simp; omega)).trans (hb.block k hk)⟩
set_option maxHeartbeats 1000000 in
theorem newInt_calls {w : World} (n : Int) (h0 : -9223372036854775808 ≤ n) (h1 : n ≤ 9223372036854775807) :
    Calls Tryz.prog 121 #[.int .i64 n] w (News w n) := by
  have H0 := As_.mk h0
  have H1 := As_.mk h1
  clear h0 h1
  go_enter Tryz.func121, Tryz.ntmps121
  go_wp2_with fail
  refine (SetInt64_calls n (new_ic w) H0.out H1.out).mono ?_
  rintro e w2 ⟨rfl, hbig, hg⟩
  have HBIG := As_.mk hbig
  have HG := As_.mk hg
  clear hbig hg
  go_wp2_with fail
  go_ret
  exact news_of HBIG.out HG.out
theorem D_one {n : Nat} (h0 : 0 < n) (h1 : n < 4294967296) : D n = [(n : Int)] := by
  unfold D
  rw [dgs_pos (by omega) h0, Nat.mod_eq_of_lt h1, Nat.div_eq_of_lt h1, dgs_zero]
theorem one_cell {w : World} {A : Option Addr} {n : Nat} (h0 : 0 < n) (h1 : n < 4294967296) (hc : Kd.C (Kd.int .u32) w A (D n).length (D n)) : ∃ ad, A = some ad ∧ w.cell? ad = some (.int .u32 n) ∧ (D n).length = 1 := by
  have hl : (D n).length = 1 := by rw [D_one h0 h1]; rfl
  obtain ⟨ad, e, hx⟩ := Kd.at_int hc 0 (by omega) (by omega)
  refine ⟨ad, e, ?_, hl⟩
  have : rd (D n) 0 = (n : Int) := by rw [D_one h0 h1]; rfl
  rw [this] at hx
  have h2 : ad.add ((0 : Int).toNat) = ad := by simp [Addr.add]
  rw [h2] at hx
  exact hx
set_option maxHeartbeats 1000000 in
theorem low_calls {w : World} {g : Nat} {n : Nat} (h : Big w g n) (hn : n < 4294967296) : Calls Tryz.prog 232 #[.pointer (some ⟨g, 0, none⟩)] w fun e w' => e = .returned (.int .u64 n) ∧ w = w' := by
  obtain ⟨A, c, k0, k1, hlc, hc⟩ := big_open h
  have e1 : (n : Int).natAbs = n := Int.natAbs_natCast n
  rw [e1] at k1 hc
  clear h hlc k0 e1
  rcases Nat.eq_zero_or_pos n with rfl | h0
  · have e2 : (D 0).length = 0 := by rw [D_zero]; rfl
    rw [e2] at k1
    clear hc e2 hn
    go_enter Tryz.func232, Tryz.ntmps232
    go_wp2
    refine wp_loop_rounds 1 ?_
    rw [rounds_succ]
    go_wp2
    go_ret
    exact ⟨rfl, rfl⟩
  · obtain ⟨ad, rfl, hx, hl⟩ := one_cell h0 hn hc
    rw [hl] at k1
    have hor : Go.bits .or .u64 0 (n : Int) = (n : Int) := by
      have := u64_or_nat 0 n (by omega) (by omega)
      simpa using this
    have hw : IntKind.u64.wrap (n : Int) = (n : Int) := u64w (by omega) (by omega)
    clear hc hl hn h0
    go_enter Tryz.func232, Tryz.ntmps232
    go_wp2
    refine wp_loop_rounds 2 ?_
    rw [rounds_succ]
    go_wp2
    rw [rounds_succ]
    go_wp2
    go_ret
    exact ⟨by first | rfl | (congr 2; done) | (simp [hor, hw]), rfl⟩
set_option maxHeartbeats 1000000 in
theorem Int64_calls {w : World} {g : Nat} {n : Nat} (h : Big w g n) (hn : n < 4294967296) : Calls Tryz.prog 188 #[.pointer (some ⟨g, 0, none⟩)] w fun e w' => e = .returned (.int .i64 n) ∧ w = w' := by
  obtain ⟨A, c, k0, k1, hlc, hc⟩ := big_open h
  have e1 : decide ((n : Int) < 0) = false := decide_eq_false (by omega)
  rw [e1] at k0
  have H := As_.mk h
  have HN := As_.mk hn
  have hw : wrap64 (n : Int) = (n : Int) := w64 (by omega) (by omega)
  clear h hlc k1 e1 hc hn
  go_enter Tryz.func188, Tryz.ntmps188
  go_wp2_with fail
  refine (low_calls H.out HN.out).mono ?_
  rintro e w' ⟨rfl, rfl⟩
  go_wp2_with fail
  go_ret
  rw [hw]
  exact ⟨rfl, rfl⟩
def bitOf (n i : Nat) : Nat := n / 2 ^ i % 2
theorem vl_digit (n q : Nat) : (D n).getD q 0 = ((n / 4294967296 ^ q % 4294967296 : Nat) : Int) := by
  induction q generalizing n with
  | zero =>
    rcases Nat.eq_zero_or_pos n with rfl | h
    · rw [D_zero]; simp
    · unfold D
      rw [dgs_pos (by omega) h]
      simp
  | succ q ih =>
    rcases Nat.eq_zero_or_pos n with rfl | h
    · rw [D_zero]; simp
    · have h2 := ih (n / 4294967296)
      unfold D at h2 ⊢
      rw [dgs_pos (by omega) h, List.getD_cons_succ, h2, Nat.div_div_eq_div_mul, Nat.pow_succ, Nat.mul_comm 4294967296]
theorem shr32_eq (u s : Nat) (hs : s ≤ 32) : shr .u32 (u : Int) (s : Int) = ((u / 2 ^ s : Nat) : Int) := by
  unfold shr
  have hb : (IntKind.u32).bits = 32 := rfl
  rw [hb, Int.toNat_natCast, Nat.min_eq_left hs, Int.natCast_ediv, Int.natCast_pow]
  rfl
theorem bit_num (n i : Nat) : n / 4294967296 ^ (i / 32) % 4294967296 / 2 ^ (i % 32) % 2 = bitOf n i := by
  unfold bitOf
  have h32 : 4294967296 = 2 ^ (i % 32) * 2 ^ (32 - i % 32) := by
    rw [← Nat.pow_add, show i % 32 + (32 - i % 32) = 32 by have := Nat.mod_lt i (show 0 < 32 by decide); omega]
  have hd : n / 2 ^ i = n / 4294967296 ^ (i / 32) / 2 ^ (i % 32) := by rw [Nat.div_div_eq_div_mul, ← pow_splitN]
  rw [hd]
  generalize n / 4294967296 ^ (i / 32) = m
  have h2 : 2 ^ (32 - i % 32) = 2 * 2 ^ (31 - i % 32) := by
    rw [← Nat.pow_succ']
    congr 1
    have := Nat.mod_lt i (show 0 < 32 by decide)
    omega
  rw [h32, Nat.mod_mul_right_div_self, h2, Nat.mod_mul_right_mod]
theorem bit_fact {w : World} {ad : Addr} {n i : Nat} (hx : w.cell? (ad.add (i / 32)) = some (.int .u32 ((D n).getD (i / 32) 0))) : ∃ x : Int, 0 ≤ x ∧ x < 4294967296 ∧ w.cell? (ad.add (i / 32)) = some (.int .u32 x) ∧ Go.bits .and .u32 (shr .u32 x ((i % 32 : Nat) : Int)) 1 = (bitOf n i : Int) := by
  rw [vl_digit] at hx
  have hb := bit_num n i
  have hml : i % 32 < 32 := Nat.mod_lt _ (by decide)
  have hdl : n / 4294967296 ^ (i / 32) % 4294967296 < 4294967296 := Nat.mod_lt _ (by decide)
  generalize n / 4294967296 ^ (i / 32) % 4294967296 = d at hx hb hdl
  refine ⟨(d : Int), by omega, by omega, hx, ?_⟩
  have hle : d / 2 ^ (i % 32) < 4294967296 := Nat.lt_of_le_of_lt (Nat.div_le_self _ _) hdl
  rw [shr32_eq d (i % 32) (Nat.le_of_lt hml), show (1 : Int) = ((1 : Nat) : Int) from rfl, u32_and_nat _ 1 hle (by decide), Nat.and_one_is_mod, hb]
set_option maxHeartbeats 1000000 in
theorem Bit_calls {w : World} {g : Nat} {n i : Nat} (h : Big w g n) (hi : i ≤ 1000000) : Calls Tryz.prog 175 #[.pointer (some ⟨g, 0, none⟩), .int .i64 i] w fun e w' => e = .returned (.int .u64 (bitOf n i)) ∧ w = w' := by
  obtain ⟨A, c, k0, k1, hlc, hc⟩ := big_open h
  have e1 : (n : Int).natAbs = n := Int.natAbs_natCast n
  rw [e1] at k1 hc
  clear h hlc k0 e1
  have hmx := hc.2.1
  by_cases hlt : i / 32 < (D n).length
  · obtain ⟨ad, rfl, hx⟩ := Kd.at_int hc ((i / 32 : Nat) : Int) (by omega) (by omega)
    rw [rd_getD, Int.toNat_natCast] at hx
    obtain ⟨x, hx0, hx1, hx2, hand⟩ := bit_fact hx
    have hbl : bitOf n i < 2 := Nat.mod_lt _ (by decide)
    have hw : IntKind.u64.wrap (bitOf n i : Int) = (bitOf n i : Int) := u64w (by omega) (by omega)
    obtain ⟨I, hI⟩ : ∃ I : Int, (i : Int) = I := ⟨_, rfl⟩
    have hlt2 : I / 32 < ((D n).length : Int) := by omega
    have hge : 0 ≤ I := by omega
    have hI1 : I ≤ 1000000 := by omega
    have hqq : ad.add (I / 32).toNat = ad.add (i / 32) := by congr 1; omega
    have hrr : ((i % 32 : Nat) : Int) = I % 32 := by omega
    rw [← hqq] at hx2
    rw [hrr] at hand
    generalize (bitOf n i : Int) = B at hand hw ⊢
    rw [hI]
    have hlen := hmx
    generalize (D n).length = L at k1 hlt2 hmx
    clear hc hx hbl hlt hI hi hqq hrr hlen
    clear i
    have hsh : shr .u32 x (I % 32) = x / 2 ^ (I % 32).toNat := by
      unfold shr
      rw [show (IntKind.u32).bits = 32 from rfl, Nat.min_eq_left (by omega)]
    rw [hsh] at hand
    have HW := As_.mk hand
    have HW2 := As_.mk hw
    clear hand hw
    go_enter Tryz.func175, Tryz.ntmps175
    go_wp2
    go_ret
    rw [HW.out, HW2.out]
    exact ⟨rfl, rfl⟩
  · obtain ⟨I, hI⟩ : ∃ I : Int, (i : Int) = I := ⟨_, rfl⟩
    have e2 : ((D n).length : Int) ≤ I / 32 := by omega
    have hge : 0 ≤ I := by omega
    have hI1 : I ≤ 1000000 := by omega
    have hbz : bitOf n i = 0 := by
      have h1 : n < 2 ^ i := by
        refine Nat.lt_of_lt_of_le (D_lt n) ?_
        rw [pow_splitN i]
        exact Nat.le_trans (Nat.pow_le_pow_right (by decide) (by omega)) (Nat.le_mul_of_pos_right _ (Nat.pow_pos (by decide)))
      unfold bitOf
      rw [Nat.div_eq_of_lt h1]
    rw [hbz, hI]
    generalize (D n).length = L at k1 e2 hmx
    clear hc hlt hI hi hbz
    clear i
    go_enter Tryz.func175, Tryz.ntmps175
    go_wp2
    go_ret
    exact ⟨rfl, rfl⟩
theorem first_cell {w : World} {A : Option Addr} {n : Nat} (h0 : 0 < n) (hc : Kd.C (Kd.int .u32) w A (D n).length (D n)) : ∃ ad, A = some ad ∧ w.cell? ad = some (.int .u32 ((n % 4294967296 : Nat) : Int)) ∧ 1 ≤ (D n).length := by
  have hl : 1 ≤ (D n).length := Nat.pos_of_ne_zero (fun e => by have := D_len0.1 e; omega)
  obtain ⟨ad, e, hx⟩ := Kd.at_int hc 0 (by omega) (by omega)
  refine ⟨ad, e, ?_, hl⟩
  rw [show (0 : Int) = ((0 : Nat) : Int) from rfl, rd_getD, vl_digit, Nat.pow_zero, Nat.div_one, Int.toNat_natCast] at hx
  simpa [Addr.add] using hx
theorem and_mask (n : Nat) : Go.bits .and .u32 ((n % 4294967296 : Nat) : Int) 16777215 = ((n % 16777216 : Nat) : Int) := by
  rw [show (16777215 : Int) = ((16777215 : Nat) : Int) from rfl, u32_and_nat _ _ (Nat.mod_lt _ (by decide)) (by decide)]
  have h : n % 4294967296 &&& 16777215 = n % 4294967296 % 16777216 := Nat.and_two_pow_sub_one_eq_mod _ 24
  rw [h]
  omega
theorem cell_lt {w : World} {p : Addr} {v : Value} (h : w.cell? p = some v) : p.block < w.heap.size := by
  unfold World.cell? at h
  rcases Nat.lt_or_ge p.block w.heap.size with h2 | h2
  · exact h2
  · rw [Array.getElem?_eq_none h2] at h
    simp at h
set_option maxHeartbeats 2000000 in
set_option maxRecDepth 100000 in
theorem And_calls {w : World} {gz gx gy : Nat} {n : Nat} (hz : Ic w gz) (hx : Big w gx n) (hy : Big w gy 16777215) (hn : 0 < n) :
    Calls Tryz.prog 187 #[.pointer (some ⟨gz, 0, none⟩), .pointer (some ⟨gx, 0, none⟩), .pointer (some ⟨gy, 0, none⟩)] w (Puts w gz (n % 16777216 : Nat)) := by
  have hgx := hx.lt
  have hgy := hy.lt
  obtain ⟨A, c, k0, k1, hlc, hc⟩ := big_open hx
  obtain ⟨A', c', k2, k3, hlc', hc'⟩ := big_open hy
  have e1 : (n : Int).natAbs = n := Int.natAbs_natCast n
  have e2 : (16777215 : Int).natAbs = 16777215 := rfl
  rw [e1] at k1 hc hlc
  rw [e2] at k3 hc' hlc'
  obtain ⟨ad, rfl, hd, hl⟩ := first_cell hn hc
  obtain ⟨ad', rfl, hd', hl'⟩ := first_cell (by decide) hc'
  have e3 : (D 16777215).length = 1 := by rw [D_one (by decide) (by decide)]; rfl
  rw [e3] at k3 hlc'
  have hml := and_mask n
  have hx2 := As_.mk hc
  have hz2 := As_.mk hz
  clear hx hy hc' k0 k2 e1 e2 e3 hlc' hz hc
  generalize (D n).length = L at k1 hl hx2
  have hr : (n % 16777216 : Nat) < 16777216 := Nat.mod_lt _ (by decide)
  generalize n % 16777216 = r at hml hr ⊢
  have hr2 : n % 4294967296 < 4294967296 := Nat.mod_lt _ (by decide)
  rw [show ((16777215 % 4294967296 : Nat) : Int) = 16777215 from rfl] at hd'
  generalize n % 4294967296 = d at hml hd hr2
  have hal := cell_lt hd
  have HD := As_.mk hd
  have HD' := As_.mk hd'
  have hal' := cell_lt hd'
  have hmin : (if (1 : Int) < (L : Int) then (1 : Int) else (L : Int)) = 1 := by split <;> omega
  have hl2 : 0 < L := by omega
  have HR := As_.mk hr
  have HLC := As_.mk hlc
  clear hl hl' hr hr2 hlc hn hd hd'
  go_enter Tryz.func187, Tryz.ntmps187
  go_wp2_with (first | ((with_reducible refine gate_dst (N := 9) rfl ?_); refine Kd.R_lit (Kd.int .u32) _ 202 ?hg (N := 9) ?hd (xs := ([] : List Int)) (inner := []) (ok := fun _ => True) (okp := fun _ => True) ?hr ?hp (fun _ hk => hk) trivial (Below.refl _ _) (Nat.le_refl _) (by simp) ?_; (case hd => rfl); (case hg => rfl); (case hr => first | (go_simp; done) | (go_simp; rfl)); (case hp => exact (Reps.none _ _)); intro v1 w1 ho hb hg_ hnew_; have s0 := (hb.cell (p := ⟨gx, 1, none⟩) hgx).trans k1; have s1 := (hb.cell (p := ⟨gy, 1, none⟩) hgy).trans k3; have s2 := (hb.cell hal).trans HD.out; have s3 := (hb.cell hal').trans HD'.out; have HO := As_.mk ho; have HB := As_.mk hb; clear hg_ hnew_ ho hb))
  go_region_held3 (fun w' => w'.cell? ⟨gx, 1, none⟩ = some (.slice (some ad) L c) ∧ w'.cell? ⟨gy, 1, none⟩ = some (.slice (some ad') 1 c')) (first | exact ⟨s0, s1⟩ | go_keep) (first | fail)
  all_goals
    go_wp2_with fail
    refine wp_loop_rounds 2 ?_
    rw [rounds_succ]
    go_wp2_with fail
    go_region_held3 (fun w' => w'.cell? ⟨gx, 1, none⟩ = some (.slice (some ad) L c) ∧ w'.cell? ⟨gy, 1, none⟩ = some (.slice (some ad') 1 c') ∧ w'.cell? ad = some (.int .u32 (d : Int)) ∧ w'.cell? ad' = some (.int .u32 16777215)) (first | exact ⟨s0, s1, s2, s3⟩ | exact ⟨t0, t1, t2, t3⟩ | go_keep)
      (first | (refine Kd.R_append_step (Kd.int .u32) (w0 := w) (W := w1.drew.drew) w.heap.size (by rfl) (.tmp 24) (.tmp 40) 156 202 (.int .u32 0) 4 rfl Tryz.underlying156 info202 rfl (by decide) (by omega) v1 [] r [.int .u32 r] (fun _ => True) (fun _ => False) rfl rfl ?aP (fun _ hk => hk.elim) ?aF ?aO ?aB ?aS ?aL ?_; (case aP => exact rfl); (case aB => exact (by repeat (first | (with_reducible first | exact HB.out | apply ba_ | apply pN_ | apply bd_) | exact HB.out))); (case aF => exact (fun _ _ => trivial)); (case aO => exact (by (with_reducible repeat (first | apply Kd.R_alloc | apply Kd.R_drewN | apply Kd.R_drew)); exact HO.out)); (case aS => exact (bz_ (by repeat (first | (with_reducible first | exact HB.out | apply ba_ | apply pN_ | apply bd_) | exact HB.out)))); (case aL => simp); intro v2 w2 ho hb hg hat; have t0 := (hb.cell (p := ⟨gx, 1, none⟩) hgx).trans k1; have t1 := (hb.cell (p := ⟨gy, 1, none⟩) hgy).trans k3; have t2 := (hb.cell hal).trans HD.out; have t3 := (hb.cell hal').trans HD'.out; have HO2 := As_.mk ho; have HB2 := As_.mk hb; clear hg hat ho hb))
    all_goals
      go_wp2_with fail
      rw [rounds_succ]
      go_wp2_with fail
      obtain ⟨A2, c2, rfl, hl2, hC2⟩ := Kd.R_reads HO2.out
      have HC2 := As_.mk hC2
      have HL2 := As_.mk hl2
      clear hC2 hl2
      refine (put_calls false (hz2.out.below HB2.out) (ds := [(r : Int)]) HC2.out HL2.out (Dg.cons (by omega) (by have := HR.out; omega) (Dg.nil _)) (by simp)).mono ?_
      rintro e w3 ⟨rfl, hbig, hg⟩
      have HBIG := As_.mk hbig
      have HG := As_.mk hg
      clear hbig hg
      go_wp2_with fail
      go_ret
      exact puts_of HB2.out HBIG.out HG.out (by rw [vl_cons, vl_nil]; simp [sg])
end Go.Proofs.YtlogcnglmdpejaaGreatDoor.Hd
end
