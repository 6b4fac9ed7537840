/- Part 8 of the proof of the card of FnExactV: walks of the functions and plain facts on them. -/
import Derived.Test.YtlogcnglmdpejaaGreatDoorMV7
import Derived.Handy
import Derived.Deep.AppendLies
import Derived.Deep.RegionLaw
section
namespace Go.Proofs.YtlogcnglmdpejaaGreatDoor.Hd
open Go.RowKit Go.Proofs.YtlogcnglmdpejaaGreatDoorW.PrintWords Go.Proofs.YtlogcnglmdpejaaGreatDoorW.PrintLast Go.Proofs.YtlogcnglmdpejaaGreatDoorW.PrintMore Go.Proofs.YtlogcnglmdpejaaGreatDoor.Pq
attribute [local go_sem] max2_int min2_int max_two min_two max_three min_three max_four min_four
set_option linter.unusedVariables false
set_option linter.unusedSimpArgs false
def pad (n L : Nat) : List Int := D n ++ List.replicate (L - (D n).length) 0
theorem pad_len {n L : Nat} (h : (D n).length ≤ L) : (pad n L).length = L := by unfold pad; simp; omega
theorem pad_dg (n L : Nat) : Dg 4294967296 (pad n L) := (D_dg n).append (Dg.replicate (by omega) _)
theorem pad_vl (n L : Nat) : vl 4294967296 (pad n L) = n := by unfold pad; rw [vl_append, vl_replicate, Int.mul_zero, Int.add_zero, D_vl]
theorem pad_head {n L : Nat} (h : 0 < L) : (pad n L).getD 0 0 = ((n % 4294967296 : Nat) : Int) := by
  unfold pad
  rcases Nat.eq_zero_or_pos n with rfl | hn
  · rw [D_zero]
    obtain ⟨m, rfl⟩ : ∃ m, L = m + 1 := ⟨L - 1, by omega⟩
    rfl
  · have h1 := vl_digit n 0
    have h2 : 0 < (D n).length := Nat.pos_of_ne_zero (fun e => by have := D_len0.1 e; omega)
    rw [Nat.pow_zero, Nat.div_one] at h1
    rw [← h1, List.getD_eq_getElem?_getD, List.getD_eq_getElem?_getD, List.getElem?_append_left h2]
theorem or_digit {X y : Nat} (hX : X % 16777216 = 0) (hy : y < 16777216) : Go.bits .or .u32 ((X % 4294967296 : Nat) : Int) (y : Int) = ((X % 4294967296 + y : Nat) : Int) ∧ X % 4294967296 + y < 4294967296 := by
  obtain ⟨q, hq⟩ : ∃ q, X % 4294967296 = 2 ^ 24 * q := ⟨X % 4294967296 / 16777216, by omega⟩
  have hlt : X % 4294967296 + y < 4294967296 := by omega
  refine ⟨?_, hlt⟩
  rw [hq] at hlt ⊢
  have h := u32_or_add y 24 q hy (by omega)
  rw [show Go.bits .or .u32 ((2 ^ 24 * q : Nat) : Int) (y : Int) = Go.bits .or .u32 (y : Int) ((2 ^ 24 * q : Nat) : Int) from ?_, h, Nat.add_comm]
  rw [u32_or_nat _ _ (by omega) (by omega), u32_or_nat _ _ (by omega) (by omega), Nat.or_comm]
theorem or_end {X y L : Nat} (hX : X % 16777216 = 0) (hy : y < 16777216) (hL : (D X).length ≤ L) (h0 : 0 < L) :
    (pad X L).set 0 ((X % 4294967296 + y : Nat) : Int) = (pad X L).set 0 ((X % 4294967296 + y : Nat) : Int) ∧
    Dg 4294967296 ((pad X L).set 0 ((X % 4294967296 + y : Nat) : Int)) ∧ (vl 4294967296 ((pad X L).set 0 ((X % 4294967296 + y : Nat) : Int))).toNat = X + y := by
  have h := (or_digit hX hy).2
  refine ⟨rfl, (pad_dg X L).set 0 (by omega) (by omega), ?_⟩
  rw [vl_set _ _ _ _ (by rw [pad_len hL]; exact h0), pad_vl, pad_head h0, Int.pow_zero, Int.one_mul]
  omega
theorem make_fact (W : World) (L : Nat) (hL : L ≤ 1000000) : (Instr.makeSlice 156 (.int .i64 L) (.int .i64 L)).run Tryz.prog W = .ok (.slice (some ⟨W.heap.size, 0, none⟩) L L) (W.alloc (.cells (madeCells #[.int .u32 0] L) 202)) := by
  obtain ⟨i, hi, hzz⟩ := Option.map_eq_some_iff.1 info202
  simp only [Prod.mk.injEq] at hzz
  obtain ⟨hz0, hz1, hz2⟩ := hzz
  have h := run_make (P := Tryz.prog) W 156 202 i (.int .u32 0) Tryz.underlying156 hi hz0 .i64 .i64 (L : Int) (L : Int) (by omega) (by omega) (by rw [hz2]; omega) (by omega)
  rw [hz1, Nat.mul_one, Int.toNat_natCast] at h
  exact h
theorem R_made (W : World) (L : Nat) (hL : L ≤ 1000000) : Kd.R (Kd.int .u32) 202 (W.alloc (.cells (madeCells #[.int .u32 0] L) 202)) W.heap.size (fun _ => True) (.slice (some ⟨W.heap.size, 0, none⟩) L L) (List.replicate L 0) := by
  have h := World.ownsRow_lit (base := W.heap.size) (e := 202) (size := 1) W (madeCells #[.int .u32 0] L) L (Nat.le_refl _) (by unfold maxLen; omega) (by rw [size_madeCells, Nat.mul_one])
  have he : (madeCells #[Value.int .u32 0] L).toList = encs (Value.int .u32) (List.replicate L 0) := by
    apply List.ext_getElem
    · simp [size_madeCells, encs]
    · intro i h1 h2
      have : i % 1 = 0 := Nat.mod_one i
      simp [madeCells, encs, this]
  rw [he] at h
  have h2 : (List.replicate L (0 : Int)).length = L := List.length_replicate
  refine Kd.R_of_own (xs := List.replicate L 0) ?_ (fun _ _ => trivial)
  rw [h2]
  exact h
theorem size202 : (Tryz.prog.info? 202).map (·.size) = some 1 := by
  obtain ⟨i, hi, hzz⟩ := Option.map_eq_some_iff.1 info202
  simp only [Prod.mk.injEq] at hzz
  rw [hi]
  simp [hzz.2.1]
theorem put_n {w : World} {gz : Nat} (neg : Bool) {A : Option Addr} {n c : Nat} {ds : List Int} (hz : Ic w gz) (hr : Kd.C (Kd.int .u32) w A n ds) (hn : ds.length = n) (hc : n ≤ c) (hd : Dg 4294967296 ds) (hl : ds.length ≤ 100000) :
    Calls Tryz.prog 176 #[.pointer (some ⟨gz, 0, none⟩), .bool neg, .slice A n c] w fun e w' => e = .returned (.pointer (some ⟨gz, 0, none⟩)) ∧ Big w' gz (sg neg (vl 4294967296 ds).toNat) ∧ w.grownBy w' (some gz) := by
  subst hn
  exact put_calls neg hz hr hc hd hl
set_option maxHeartbeats 2000000 in
set_option maxRecDepth 100000 in
theorem Or_calls {w : World} {gz gx gy : Nat} {X y : Nat} (hz : Ic w gz) (hx : Big w gx X) (hy : Big w gy y) (hX : X % 16777216 = 0) (hyl : y < 16777216) (hlX : (D X).length ≤ 50000) :
    Calls Tryz.prog 278 #[.pointer (some ⟨gz, 0, none⟩), .pointer (some ⟨gx, 0, none⟩), .pointer (some ⟨gy, 0, none⟩)] w (Puts w gz (X + y : Nat)) := by
  have hgx := hx.lt
  have hgy := hy.lt
  obtain ⟨A, c, k0, k1, hlc, hc⟩ := big_open hx
  obtain ⟨A', c', k2, k3, hlc', hc'⟩ := big_open hy
  rw [Int.natAbs_natCast] at k1 hc hlc k3 hc' hlc'
  have hyl1 : (D y).length ≤ 1 := D_le (by omega)
  obtain ⟨L, hLdef⟩ : ∃ L, max (D X).length (D y).length = L := ⟨_, rfl⟩
  have hmax : (if (D X).length < (D y).length then ((D y).length : Int) else ((D X).length : Int)) = (L : Int) := by split <;> omega
  have hLx : (D X).length ≤ L := by omega
  have hLn : (L : Int).toNat = L := Int.toNat_natCast L
  have hL0 : (0 : Int) ≤ (L : Int) := by omega
  have HZ := As_.mk hz
  have HC := As_.mk hc
  have HC' := As_.mk hc'
  have HLX := As_.mk hLx
  have HLYL := As_.mk (show (D y).length ≤ L by omega)
  have HMN := As_.mk (show min (D X).length (List.replicate L (0 : Int)).length = (D X).length by rw [List.length_replicate]; omega)
  have HPL := As_.mk (pad_len hLx)
  have HLL := As_.mk (show L ≤ 50001 by omega)
  have HLN := As_.mk hLn
  have HL0 := As_.mk hL0
  have HP : As_ ((D X).take (min (D X).length (List.replicate L (0:Int)).length) ++ (List.replicate L (0:Int)).drop (min (D X).length (List.replicate L (0:Int)).length) = pad X L) := ⟨by
    unfold pad
    rw [List.length_replicate, Nat.min_eq_left hLx, List.take_of_length_le (Nat.le_refl _), List.drop_replicate]⟩
  clear hx hy hc hc' k0 k2 hz hlc hlc' hLx hLn hL0
  generalize (D X).length = lx at *
  generalize hly : (D y).length = ly at *
  have HYL := As_.mk hly
  clear hly
  obtain ⟨Z, hZ⟩ : ∃ Z : Int, ((X + y : Nat) : Int) = Z := ⟨_, rfl⟩
  rw [hZ]
  have HZZ := As_.mk hZ
  clear hZ hLdef
  have HXX := As_.mk hX
  have HYY := As_.mk hyl
  have HLY := As_.mk hyl1
  clear hX hyl hlX
  have hmk := make_fact w.drew L (by have := HLL.out; omega)
  go_enter Tryz.func278, Tryz.ntmps278
  go_wp2_with fail
  go_region_held3 (fun w' => w'.cell? ⟨gx, 1, none⟩ = some (.slice A lx c) ∧ w'.cell? ⟨gy, 1, none⟩ = some (.slice A' ly c')) (first | exact ⟨s0, s1⟩ | go_keep)
    (first | fail)
  all_goals
    have hO0 : Kd.R (Kd.int .u32) 202 (w.alloc (.cells (madeCells #[.int .u32 0] L) 202)).drew w.heap.size (fun _ => True) (.slice (some ⟨w.heap.size, 0, none⟩) L L) (List.replicate L 0) := R_made w.drew L (by have := HLL.out; omega)
    have hB0 : Below w.heap.size w (w.alloc (.cells (madeCells #[.int .u32 0] L) 202)).drew := ba_ (below_drew (Below.refl _ _)) _
    have HG : As_ (w.heap.size ≤ w.heap.size) := ⟨Nat.le_refl _⟩
    rename_i hHeld
    clear hHeld hmk
    generalize (w.alloc (.cells (madeCells #[.int .u32 0] L) 202)).drew = w1 at hO0 hB0 ⊢
    have hGg : ∃ g, g = w.heap.size := ⟨_, rfl⟩
    obtain ⟨g, hg⟩ := hGg
    have HGE := As_.mk (Nat.le_of_eq hg.symm)
    rw [← hg] at hO0 ⊢
    have HO := As_.mk (Kd.R_lower hO0 HGE.out)
    have HB := As_.mk hB0
    have s0 := (hB0.cell (p := ⟨gx, 1, none⟩) hgx).trans k1
    have s1 := (hB0.cell (p := ⟨gy, 1, none⟩) hgy).trans k3
    clear hg hO0 hB0 HG
    go_wp2_with (first | ((with_reducible refine gate_dst (N := 27) rfl ?_); refine Kd.R_copy (0 : Int) (w0 := w) w.heap.size rfl (.tmp 22) (.tmp 26) 156 156 202 rfl Tryz.underlying156 size202 (.slice (some ⟨g, 0, none⟩) L L) (List.replicate L 0) (D X) A lx c (fun _ => True) rfl rfl HO.out (Kd.C_below HC.out HB.out) HB.out (bz_ HB.out) ?_; intro w2 ho hb hg; rw [HP.out] at ho; rw [HMN.out]; have s0 := (hb.cell (p := ⟨gx, 1, none⟩) hgx).trans k1; have s1 := (hb.cell (p := ⟨gy, 1, none⟩) hgy).trans k3; have HO2 := As_.mk ho; have HB2 := As_.mk hb; clear ho hb hg))
    have hxl := HPL.out
    have hC2 := (Kd.R_reads' HO2.out).2.2
    rw [hxl] at hC2
    have HC2 := As_.mk hC2
    have HXL := As_.mk hxl
    clear hC2 hxl
    rcases (show ly = 0 ∨ ly = 1 by omega) with rfl | rfl
    · have hy0 := D_len0.1 HYL.out
      subst hy0
      clear hmax
      refine wp_loop_rounds 1 ?_
      rw [rounds_succ]
      go_wp2_with fail
      refine (put_n (ds := pad X L) false (HZ.out.below HB2.out) HC2.out HXL.out (Nat.le_refl _) (pad_dg _ _) (by have := HLL.out; rw [HXL.out]; omega)).mono ?_
      rintro e w3 ⟨rfl, hbig, hg⟩
      have HBIG := As_.mk hbig
      have HG := As_.mk hg
      clear hbig hg
      go_wp2_with fail
      go_ret
      exact puts_of HB2.out HBIG.out HG.out (by rw [pad_vl, ← HZZ.out]; simp [sg])
    · clear hmax
      have hy0 : 0 < y := Nat.pos_of_ne_zero (fun e => by have := HYL.out; rw [e, D_zero] at this; cases this)
      have hyC := Kd.C_below HC'.out HB2.out
      rw [← HYL.out] at hyC
      obtain ⟨ad', rfl, hd', _⟩ := one_cell hy0 (by have := HYY.out; omega) hyC
      have hL1 : 0 < L := HLYL.out
      have hhd := pad_head (n := X) hL1
      obtain ⟨hor, hos⟩ := or_digit HXX.out HYY.out
      obtain ⟨_, hend1, hend2⟩ := or_end (L := L) HXX.out HYY.out (by have := HPL.out; unfold pad at this; simp at this; omega) hL1
      have hP := Kd.R_putg HO2.out 0 ((X % 4294967296 + y : Nat) : Int)
      obtain ⟨hx0, hf0⟩ := Kd.R_celln 0 HO2.out 0 (by omega) (by omega)
      have hrd : rdOf (0 : Int) (pad X L) 0 = ((X % 4294967296 : Nat) : Int) := hhd
      rw [hrd] at hx0
      rw [show Int.toNat 0 = 0 from rfl] at hx0 hf0 hP
      have HE1 := As_.mk hend1
      have HE2 := As_.mk hend2
      have HPP := As_.mk hP
      have HY0 := As_.mk hy0
      have HL1 := As_.mk (show (pad X L).length = L from HPL.out)
      clear hend1 hend2 hP hhd hrd hyC hos hy0
      generalize X % 4294967296 = d at *
      obtain ⟨V, hV⟩ : ∃ V : Int, ((d + y : Nat) : Int) = V := ⟨_, rfl⟩
      rw [hV] at hor HE1 HE2 HPP
      clear hV
      generalize hyi : (y : Int) = yi at *
      clear hyi
      refine wp_loop_rounds 2 ?_
      rw [rounds_succ]
      go_wp2_with fail
      rw [rounds_succ]
      go_wp2_with fail
      have HB3 := As_.mk (bs_ (j := 0) (v := .int .u32 V) HB2.out HGE.out)
      have HC3 := (Kd.R_reads' HPP.out.1).2.2
      rw [List.length_set, HPL.out] at HC3
      have HC4 := As_.mk HC3
      clear HC3
      refine (put_n (ds := (pad X L).set 0 V) false (HZ.out.below HB3.out) HC4.out (by rw [List.length_set, HPL.out]) (Nat.le_refl _) HE1.out (by have := HLL.out; rw [List.length_set, HPL.out]; omega)).mono ?_
      rintro e w3 ⟨rfl, hbig, hg⟩
      have HBIG := As_.mk hbig
      have HG := As_.mk hg
      clear hbig hg
      go_wp2_with fail
      go_ret
      exact puts_of HB3.out HBIG.out HG.out (by rw [HE2.out, ← HZZ.out]; simp [sg])
theorem nonneg_dec (n : Nat) : decide ((n : Int) < 0) = false := decide_eq_false (by omega)
set_option maxHeartbeats 2000000 in
theorem Cmp_calls {w : World} {gx gy : Nat} {m n : Nat} (hx : Big w gx m) (hy : Big w gy n) (hlm : (D m).length ≤ 100000) (hln : (D n).length ≤ 100000) :
    Calls Tryz.prog 264 #[.pointer (some ⟨gx, 0, none⟩), .pointer (some ⟨gy, 0, none⟩)] w fun e w' => e = .returned (.int .i64 (cm m n)) ∧ Below w.heap.size w w' := by
  obtain ⟨A, c, k0, k1, hlc, hc⟩ := big_open hx
  obtain ⟨A', c', k2, k3, hlc', hc'⟩ := big_open hy
  rw [Int.natAbs_natCast] at k1 hc hlc k3 hc' hlc'
  rw [nonneg_dec] at k0 k2
  have HC := As_.mk hc
  have HC' := As_.mk hc'
  have HL := As_.mk hlc
  have HL' := As_.mk hlc'
  have HM := As_.mk hlm
  have HN := As_.mk hln
  clear hx hy hc hc' hlc hlc' hlm hln
  generalize hv : cm (m : Int) (n : Int) = v
  have HV := As_.mk hv
  clear hv
  go_enter Tryz.func264, Tryz.ntmps264
  go_wp2_with fail
  go_region_with (first | (go_at_call 266; refine (magCmp_calls (Kd.C_drew HC.out) HL.out (Kd.C_drew HC'.out) HL'.out HM.out HN.out).mono ?_; rintro e w1 ⟨rfl, hb⟩; rw [HV.out]; have HB := As_.mk (below_undrew hb); clear hb))
  all_goals
    go_wp2_with fail
    go_ret
    exact ⟨rfl, HB.out⟩
set_option maxHeartbeats 2000000 in
theorem Rsh_calls {w : World} {gz gx : Nat} {n s : Nat} (hz : Ic w gz) (hx : Big w gx n) (hl : (D n).length ≤ 100000) (hs : s ≤ 1000000) :
    Calls Tryz.prog 125 #[.pointer (some ⟨gz, 0, none⟩), .pointer (some ⟨gx, 0, none⟩), .int .u64 s] w (Puts w gz (n / 2 ^ s : Nat)) := by
  obtain ⟨A, c, k0, k1, hlc, hc⟩ := big_open hx
  rw [Int.natAbs_natCast] at k1 hc hlc
  rw [nonneg_dec] at k0
  have HC := As_.mk hc
  have HLC := As_.mk hlc
  have HZ := As_.mk hz
  have HL := As_.mk hl
  have HS := As_.mk hs
  clear hx hc hlc hz hl hs
  obtain ⟨S, hS⟩ : ∃ S : Int, (s : Int) = S := ⟨_, rfl⟩
  have HSS := As_.mk hS
  obtain ⟨q, hq⟩ : ∃ q : Nat, n / 2 ^ s = q := ⟨_, rfl⟩
  rw [hS, hq]
  have HQ := As_.mk hq
  clear hS hq
  go_enter Tryz.func125, Tryz.ntmps125
  go_wp2_with fail
  have hcall := magRight_calls (a1 := s) HC.out HLC.out HL.out HS.out
  rw [HSS.out] at hcall
  refine hcall.mono ?_
  clear hcall
  rintro e w1 ⟨A1, c1, rfl, hl1, hc1, hb1⟩
  rw [HQ.out] at hl1 hc1
  have HL1 := As_.mk hl1
  have HC1 := As_.mk hc1
  have HB1 := As_.mk hb1
  clear hl1 hc1 hb1
  have hqn : (D q).length ≤ 100000 := by rw [← HQ.out]; exact Nat.le_trans (D_mono (Nat.div_le_self _ _)) HL.out
  have HQN := As_.mk hqn
  clear hqn
  rw [HQ.out]
  go_wp2_with fail
  refine (put_D false (HZ.out.below HB1.out) HC1.out HL1.out HQN.out).mono ?_
  rintro e w2 ⟨rfl, hbig, hg⟩
  have HBIG := As_.mk hbig
  have HG := As_.mk hg
  clear hbig hg
  go_wp2_with fail
  go_ret
  exact puts_of HB1.out HBIG.out HG.out rfl
def Bigf (w : World) (ok : Nat → Prop) (g : Nat) (z : Int) : Prop := ∃ v, w.heap[g]? = some (.cells #[.bool (decide (z < 0)), v] 158 (0, 0)) ∧ Kd.V (Kd.int .u32) 202 w 0 ok v (D z.natAbs)
theorem Bigf.big {w : World} {ok : Nat → Prop} {g : Nat} {z : Int} (h : Bigf w ok g z) : Big w g z := by
  obtain ⟨v, hb, hV⟩ := h
  obtain ⟨A, c, rfl⟩ := Kd.V_slice hV
  obtain ⟨_, h2, h3⟩ := Kd.V_reads' hV
  exact ⟨_, hb, A, c, rfl, h2, h3⟩
theorem Bigf.mono {w : World} {ok ok' : Nat → Prop} {g : Nat} {z : Int} (h : Bigf w ok g z) (hk : ∀ k, ok k → ok' k) : Bigf w ok' g z := by
  obtain ⟨v, hb, hV⟩ := h
  exact ⟨v, hb, Kd.V_mono hV hk⟩
theorem Bigf.bound {w : World} {ok : Nat → Prop} {g : Nat} {z : Int} (h : Bigf w ok g z) : Bigf w (fun k => ok k ∧ k < w.heap.size) g z := by
  obtain ⟨v, hb, hV⟩ := h
  exact ⟨v, hb, Kd.V_bound hV⟩
theorem Bigf.below {w w' : World} {ok : Nat → Prop} {g : Nat} {z : Int} (h : Bigf w ok g z) (hb : Below w.heap.size w w') : Bigf w' ok g z := by
  obtain ⟨v, e, hV⟩ := h
  exact ⟨v, (hb.block g (heap_lt e)).trans e, Kd.V_below hV hb⟩
theorem Bigf.grown {w w' : World} {ok : Nat → Prop} {g : Nat} {z : Int} {row : Option Nat} (h : Bigf w ok g z) (hg : w.grownBy w' row) (hok : ∀ k, ok k → some k ≠ row) (hne : some g ≠ row) : Bigf w' ok g z := by
  obtain ⟨v, e, hV⟩ := h
  exact ⟨v, (hg.block g (heap_lt e) hne).trans e, Kd.V_grown hV hg hok⟩
set_option maxHeartbeats 1000000 in
theorem put_f {w : World} {gz : Nat} {P : Nat → Prop} {A : Option Addr} {n c : Nat} (hz : Ic w gz) (hV : Kd.V (Kd.int .u32) 202 w w.heap.size P (.slice A (D n).length c) (D n)) (hP : ∀ k, P k → k ≠ gz) (hl : (D n).length ≤ 100000) :
    Calls Tryz.prog 176 #[.pointer (some ⟨gz, 0, none⟩), .bool false, .slice A (D n).length c] w fun e w' => e = .returned (.pointer (some ⟨gz, 0, none⟩)) ∧ Bigf w' (fun k => P k ∨ w.heap.size ≤ k) gz n ∧ w.grownBy w' (some gz) := by
  have hzl := hz.lt
  obtain ⟨b0, A0, n0, c0, hblk⟩ := hz
  have HBK := As_.mk hblk
  have HV := As_.mk hV
  have HP := As_.mk hP
  have HL := As_.mk hl
  have HLT := As_.mk hzl
  clear hblk hV hP hl hzl
  go_enter Tryz.func176, Tryz.ntmps176
  go_wp2_with fail
  have hcall := impl_magTrim.calls fuel P A c (D n) _ w HV.out (magTrim_f (by have := HL.out; have := fuel_ge; omega) (by have := HL.out; omega) (D_dg n))
  rw [D_vl, Int.toNat_natCast] at hcall
  refine hcall.mono ?_
  clear hcall
  rintro e w1 ⟨v, rfl, hm, hb⟩
  obtain ⟨A1, c1, rfl⟩ := Kd.V_slice hm
  have hb1 := (hb.block gz HLT.out).trans HBK.out
  have HB := As_.mk hb
  have HM := As_.mk hm
  have H1 := As_.mk hb1
  have k0 := kc_ hb1 0
  have k1 := kc_ hb1 1
  have f0 := blk_free hb1 0
  have f1 := blk_free hb1 1
  simp only [List.getElem?_toArray, List.getElem?_cons_zero, List.getElem?_cons_succ] at k0 k1
  clear hb hm hb1
  go_wp2_with fail
  go_ret
  have hne : ∀ k, (P k ∨ w.heap.size ≤ k) → k ≠ gz := fun k hk => hk.elim (HP.out k) (fun h2 he => by have := HLT.out; omega)
  refine ⟨rfl, ⟨.slice A1 (D n).length c1, ?_, ?_⟩, ?_⟩
  · rw [blk_set (blk_set H1.out 1 (.slice A1 (D n).length c1)) 0 (.bool false), nonneg_dec]
    rfl
  · rw [Int.natAbs_natCast]
    exact Kd.V_far (Kd.V_far HM.out (p := ⟨gz, 1, none⟩) hne _) (p := ⟨gz, 0, none⟩) hne _
  · exact grown_then (grown_below HB.out gz) (grown_set (grown_set (grown_below (Below.refl _ _) gz) _ _) _ _)
set_option maxHeartbeats 2000000 in
theorem Rsh_f {w : World} {gz gx : Nat} {n s : Nat} (hz : Ic w gz) (hx : Big w gx n) (hl : (D n).length ≤ 100000) (hs : s ≤ 1000000) :
    Calls Tryz.prog 125 #[.pointer (some ⟨gz, 0, none⟩), .pointer (some ⟨gx, 0, none⟩), .int .u64 s] w fun e w' => e = .returned (.pointer (some ⟨gz, 0, none⟩)) ∧ Bigf w' (fun k => w.heap.size ≤ k) gz (n / 2 ^ s : Nat) ∧ w.grownBy w' (some gz) := by
  obtain ⟨A, c, k0, k1, hlc, hc⟩ := big_open hx
  rw [Int.natAbs_natCast] at k1 hc hlc
  rw [nonneg_dec] at k0
  have HC := As_.mk hc
  have HLC := As_.mk hlc
  have HZ := As_.mk hz
  have HL := As_.mk hl
  have HS := As_.mk hs
  clear hx hc hlc hz hl hs
  obtain ⟨S, hS⟩ : ∃ S : Int, (s : Int) = S := ⟨_, rfl⟩
  have HSS := As_.mk hS
  obtain ⟨q, hq⟩ : ∃ q : Nat, n / 2 ^ s = q := ⟨_, rfl⟩
  rw [hS, hq]
  have HQ := As_.mk hq
  clear hS hq
  go_enter Tryz.func125, Tryz.ntmps125
  go_wp2_with fail
  have hcall := impl_magRight.calls fuel A c (D n) s _ w HC.out HLC.out (magRight_f HL.out HS.out (by have := fuel_ge; omega))
  rw [HSS.out, HQ.out] at hcall
  refine hcall.mono ?_
  clear hcall
  rintro e w1 ⟨v, rfl, hm, hb⟩
  obtain ⟨A1, c1, rfl⟩ := Kd.V_slice hm
  have HM := As_.mk hm
  have HB1 := As_.mk hb
  clear hm hb
  have hqn : (D q).length ≤ 100000 := by rw [← HQ.out]; exact Nat.le_trans (D_mono (Nat.div_le_self _ _)) HL.out
  have HQN := As_.mk hqn
  clear hqn
  go_wp2_with fail
  refine (put_f (P := fun k => w.heap.size ≤ k) (HZ.out.below HB1.out) HM.out (fun k hk he => by have := HZ.out.lt; omega) HQN.out).mono ?_
  rintro e w2 ⟨rfl, hbig, hg⟩
  have HBIG := As_.mk hbig
  have HG := As_.mk hg
  clear hbig hg
  go_wp2_with fail
  go_ret
  exact ⟨rfl, HBIG.out.mono (fun k hk => hk.elim id (fun h2 => Nat.le_trans HB1.out.size h2)), grown_then (grown_below HB1.out gz) HG.out⟩
theorem results_agg {P : Program} {fn : Func} {p u : Tmp} {ty : TypeId} (h : fn.results = #[.cell p ty, .tmp u]) (tmps : Array Value) (w : World) (g : Nat) (t : TypeId) (cs : Array Value) (fr : Nat × Nat) (d : TypeDesc)
    (hp : tmps.getD p undef = .pointer (some ⟨g, 0, none⟩)) (hg : w.heap[g]? = some (.cells cs t fr))
    (hu : P.underlying ty = some d) (hd : (match d with | .struct _ | .array _ _ => true | _ => false) = true) (hi : (P.info? ty).map (·.size) = some cs.size) :
    (results fn tmps).run P w = .ok (.tuple #[.agg cs, tmps.getD u undef]) w := by
  rw [results_cell_tmp h, hp]
  simp [asAddr, Result.andThen, run_loadVar_row w g t ty cs fr d hg hu hd hi]
theorem fromBig_far {w : World} {g : Nat} {z : Int} (h : Big w g z) (hl : (D z.natAbs).length ≤ 100000) (hb : 2400 < bits z.natAbs) :
    Calls Tryz.prog 135 #[.pointer (some ⟨g, 0, none⟩)] w fun e w' => e = .returned (.tuple #[.agg #[.int .i64 0, .slice none 0 0], .bool false]) ∧ Below w.heap.size w w' := by
  have H := As_.mk h
  have HL := As_.mk hl
  obtain ⟨b, hbb⟩ : ∃ b : Int, (bits z.natAbs : Int) = b := ⟨_, rfl⟩
  have hb2 : 2400 < b := by omega
  have HBB := As_.mk hbb
  clear h hl hb hbb
  go_enter Tryz.func135, Tryz.ntmps135
  go_wp2_with fail
  refine (BitLen_calls (H.out.below (ba_ (Below.refl _ _) _)) HL.out).mono ?_
  rintro e w1 ⟨rfl, hb⟩
  rw [HBB.out]
  have HB := As_.mk hb
  have hblk := (hb.block w.heap.size (by simp)).trans (heap_alloc_new w _)
  have hne := H.out.lt
  have k0 := kc_ hblk 0
  have k1 := kc_ hblk 1
  have f0 := blk_free hblk 0
  have f1 := blk_free hblk 1
  simp only [List.getElem?_toArray, List.getElem?_cons_zero, List.getElem?_cons_succ] at k0 k1
  have HBK := As_.mk hblk
  generalize hNN : w.heap.size = N at k0 k1 f0 f1 HBK ⊢
  have HN := As_.mk hNN
  clear hb hblk hNN
  go_wp2_with fail
  have hend : ((w1.setCell ⟨N, 0, none⟩ (.int .i64 0)).setCell ⟨N, 1, none⟩ (.slice none 0 0)).heap[N]? = some (.cells #[.int .i64 0, .slice none 0 0] 54 (0, 0)) := (blk_set (blk_set HBK.out 0 _) 1 _).trans rfl
  refine bodyPost_ret (results_agg rfl _ _ N 54 #[.int .i64 0, .slice none 0 0] (0, 0) _ rfl hend Tryz.underlying54 rfl (by kernel_rfl)) rfl ?_
  rw [← HN.out]
  exact ⟨rfl, bs_ (bs_ (Below.trans (ba_ (Below.refl _ _) _) (Below.mono HB.out (by simp))) (Nat.le_refl _)) (Nat.le_refl _)⟩
def Ub (w : World) (k : Nat) : Prop := ∃ ad x, k = ad.block ∧ w.cell? ad = some (.int .u32 x)
theorem Ub.lt {w : World} {k : Nat} (h : Ub w k) : k < w.heap.size := by
  obtain ⟨ad, x, rfl, h⟩ := h
  exact cell_lt h
theorem Ub.ne {w : World} {k N : Nat} {a b : Value} {t : TypeId} (h : Ub w k) (hN : w.heap[N]? = some (.cells #[a, b] t (0, 0))) (ha : ∀ x, a ≠ .int .u32 x) (hb : ∀ x, b ≠ .int .u32 x) : k ≠ N := by
  rintro rfl
  obtain ⟨ad, x, rfl, h⟩ := h
  unfold World.cell? at h
  rw [hN] at h
  simp only at h
  split at h
  · cases h
  · rcases ho : ad.off with _ | _ | k
    · rw [ho] at h; simp at h; exact ha _ h
    · rw [ho] at h; simp at h; exact hb _ h
    · rw [ho] at h; simp at h
theorem Bigf.of_big' {w : World} {g : Nat} {z : Int} (h : Big w g z) : ∃ P, Bigf w P g z ∧ ∀ k, P k → Ub w k := by
  obtain ⟨v, hb, A, c, rfl, hl, hc⟩ := h
  have hr := Kd.reads_of_C (d := 0) hc
  refine ⟨fun k => 0 < (D z.natAbs).length ∧ ∃ ad, A = some ad ∧ k = ad.block, ⟨_, hb, A, c, rfl, hl, fun W' hW => ?_⟩, ?_⟩
  · refine Kd.C_of_reads (d := 0) ⟨hr.1, hr.2.1, fun hn => ?_⟩
    obtain ⟨ad, hA, hx⟩ := hr.2.2 hn
    refine ⟨ad, hA, fun j hj => ?_⟩
    rw [← hx j hj]
    have hlt := cell_lt (hx 0 hn)
    have hblk : (ad.add j).block = ad.block := by unfold Addr.add; split <;> rfl
    have hlt2 : ad.block < w.heap.size := by simpa [Addr.add] using hlt
    have heq := hW ad.block ⟨hn, ad, hA, rfl⟩ hlt2
    rw [← hblk] at heq
    exact World.cell?_of_block (w := w) heq
  · rintro k ⟨hn, ad, hA, rfl⟩
    obtain ⟨ad', hA', hx⟩ := hr.2.2 hn
    rw [hA] at hA'
    injection hA' with e
    subst e
    exact ⟨ad.add 0, _, rfl, hx 0 hn⟩
theorem Bigf.ne {w : World} {P : Nat → Prop} {g k : Nat} {z : Int} (h : Bigf w P g z) (hu : Ub w k) : k ≠ g := by
  obtain ⟨v, e, hV⟩ := h
  obtain ⟨A, c, rfl⟩ := Kd.V_slice hV
  exact hu.ne e (by intro x h; cases h) (by intro x h; cases h)
structure FbI (w : World) (N2 N4 N5 N6 : Nat) (sgn : Int) (m : Nat) (w' : World) (v : Value) (ds : List Int) (r : Nat) (P Pm : Nat → Prop) : Prop where
  val : E m = ds ++ E r
  b2 : w'.heap[N2]? = some (.cells #[.int .i64 0, .slice none 0 0] 54 (0, 0))
  b4 : w'.heap[N4]? = some (.cells #[.int .i64 sgn, v] 54 (0, 0))
  rest : Bigf w' P N5 r
  mask : Bigf w' Pm N6 16777215
  row : Kd.R (Kd.int .i64) 2 w' w.heap.size (fun k => ¬ P k ∧ ¬ Pm k ∧ k ≠ N2 ∧ k ≠ N4 ∧ k ≠ N5 ∧ k ≠ N6) v ds
  apart : ∀ k, P k ∨ Pm k → k < w'.heap.size ∧ k ≠ N2 ∧ k ≠ N4 ∧ k ≠ N5 ∧ k ≠ N6
  old : w.heap.size ≤ N2 ∧ w.heap.size ≤ N4 ∧ w.heap.size ≤ N5 ∧ w.heap.size ≤ N6 ∧ N2 ≠ N4 ∧ N2 ≠ N5 ∧ N2 ≠ N6 ∧ N4 ≠ N5 ∧ N4 ≠ N6 ∧ N5 ≠ N6
  below : Below w.heap.size w w'
theorem E_pos {r : Nat} (h : 0 < r) : E r = ((r % 16777216 : Nat) : Int) :: E (r / 16777216) := dgs_pos (by omega) h
theorem E_len {n k : Nat} (h : (D n).length ≤ k) : (E n).length ≤ 2 * k := by
  refine E_le (Nat.lt_of_lt_of_le (D_lt n) (Nat.le_trans (Nat.pow_le_pow_right (by decide) h) ?_))
  rw [Nat.pow_mul]
  exact Nat.pow_le_pow_left (by decide) k
theorem FbI.len {w : World} {N2 N4 N5 N6 : Nat} {sgn : Int} {m : Nat} {wr : World} {v : Value} {ds : List Int} {r : Nat} {P Pm : Nat → Prop} (h : FbI w N2 N4 N5 N6 sgn m wr v ds r P Pm) : ds.length ≤ (E m).length := by
  rw [h.val, List.length_append]
  omega
theorem FbI.le {w : World} {N2 N4 N5 N6 : Nat} {sgn : Int} {m : Nat} {wr : World} {v : Value} {ds : List Int} {r : Nat} {P Pm : Nat → Prop} (h : FbI w N2 N4 N5 N6 sgn m wr v ds r P Pm) : r ≤ m := by
  have h1 := congrArg (vl 16777216) h.val
  rw [E_vl, vl_append, E_vl] at h1
  have h2 : 0 ≤ vl 16777216 ds := vl_nonneg (fun d hd => E_dg m d (by rw [h.val]; exact List.mem_append_left _ hd))
  have h3 : (1 : Int) ≤ 16777216 ^ ds.length := Int.le_of_lt_add_one (by have := Int.pow_pos (n := (16777216 : Int)) (m := ds.length) (by decide); omega)
  have h4 : (r : Int) ≤ 16777216 ^ ds.length * (r : Int) := by
    have := Int.mul_le_mul_of_nonneg_right h3 (show (0 : Int) ≤ (r : Int) by omega)
    omega
  generalize (16777216 : Int) ^ ds.length * (r : Int) = x at *
  omega
theorem FbI.fresh {w : World} {N2 N4 N5 N6 : Nat} {sgn : Int} {m : Nat} {wr : World} {v : Value} {ds : List Int} {r : Nat} {P Pm : Nat → Prop} (h : FbI w N2 N4 N5 N6 sgn m wr v ds r P Pm) {k : Nat} (hk : wr.heap.size ≤ k) :
    ¬ P k ∧ ¬ Pm k ∧ k ≠ N2 ∧ k ≠ N4 ∧ k ≠ N5 ∧ k ≠ N6 := by
  have l2 := heap_lt h.b2
  have l4 := heap_lt h.b4
  have l5 := h.rest.big.lt
  have l6 := h.mask.big.lt
  refine ⟨fun hp => ?_, fun hp => ?_, by omega⟩
  · have := (h.apart k (.inl hp)).1
    omega
  · have := (h.apart k (.inr hp)).1
    omega
theorem FbI.own4 {w : World} {N2 N4 N5 N6 : Nat} {sgn : Int} {m : Nat} {wr : World} {v : Value} {ds : List Int} {r : Nat} {P Pm : Nat → Prop} (h : FbI w N2 N4 N5 N6 sgn m wr v ds r P Pm) : some N4 ≠ v.ownBlock :=
  fun e => (h.row.1 N4 e.symm).2.2.2.1 rfl
theorem FbI.next {w : World} {N2 N4 N5 N6 : Nat} {sgn : Int} {m : Nat} {wr : World} {v : Value} {ds : List Int} {r : Nat} {P Pm : Nat → Prop} (h : FbI w N2 N4 N5 N6 sgn m wr v ds r P Pm) (hr : 0 < r)
    {W2 W3 W5 : World} {v3 : Value} (hb2 : Below wr.heap.size wr W2) (hR : Kd.R (Kd.int .i64) 2 W3 w.heap.size (fun k => ¬ P k ∧ ¬ Pm k ∧ k ≠ N2 ∧ k ≠ N4 ∧ k ≠ N5 ∧ k ≠ N6) v3 (ds ++ [((r % 16777216 : Nat) : Int)]))
    (hb3 : Below w.heap.size w W3) (hg3 : W2.grownBy W3 v.ownBlock) (hrest : Bigf W5 (fun k => (W3.setCell ⟨N4, 1, none⟩ v3).heap.size ≤ k) N5 (r / 16777216 : Nat)) (hg5 : (W3.setCell ⟨N4, 1, none⟩ v3).grownBy W5 (some N5)) :
    ∃ P' Pm', FbI w N2 N4 N5 N6 sgn m W5 v3 (ds ++ [((r % 16777216 : Nat) : Int)]) (r / 16777216) P' Pm' := by
  obtain ⟨o1, o2, o3, o4, n1, n2, n3, n4, n5, n6⟩ := h.old
  have hown : ∀ k, v.ownBlock = some k → ¬ P k ∧ ¬ Pm k ∧ k ≠ N2 ∧ k ≠ N4 ∧ k ≠ N5 ∧ k ≠ N6 := h.row.1
  have c2 : some N2 ≠ v.ownBlock := fun e => (hown N2 e.symm).2.2.1 rfl
  have c4 : some N4 ≠ v.ownBlock := fun e => (hown N4 e.symm).2.2.2.1 rfl
  have c6 : some N6 ≠ v.ownBlock := fun e => (hown N6 e.symm).2.2.2.2.2 rfl
  have hg4 : W3.grownBy (W3.setCell ⟨N4, 1, none⟩ v3) (some N4) := grown_set (grown_below (Below.refl _ _) N4) _ _
  have l2 := heap_lt h.b2
  have l4 := heap_lt h.b4
  have s3 := hg3.size
  have s2 := hb2.size
  have s4 := hg4.size
  have s5 := hg5.size
  have l5 := hrest.big.lt
  have l5' := h.rest.big.lt
  have l6 := h.mask.big.lt
  have b2 : W3.heap[N2]? = _ := (hg3.block N2 (by omega) c2).trans ((hb2.block N2 l2).trans h.b2)
  have b4 : W3.heap[N4]? = _ := (hg3.block N4 (by omega) c4).trans ((hb2.block N4 l4).trans h.b4)
  refine ⟨fun k => (W3.setCell ⟨N4, 1, none⟩ v3).heap.size ≤ k ∧ k < W5.heap.size, Pm, ?_, ?_, ?_, hrest.bound, ?_, ?_, ?_, h.old, ?_⟩
  · rw [h.val, E_pos hr]
    simp
  · exact (hg5.block N2 (by omega) (by simp; omega)).trans ((hg4.block N2 (by omega) (by simp; omega)).trans b2)
  · exact (hg5.block N4 (by omega) (by simp; omega)).trans ((blk_set b4 1 v3).trans rfl)
  · refine Bigf.grown (Bigf.grown (Bigf.grown (h.mask.below hb2) hg3 (fun k hk e => (hown k e.symm).2.1 hk) c6) hg4 (fun k hk => ?_) (by simp; omega)) hg5 (fun k hk => ?_) (by simp; omega)
    · have := (h.apart k (.inr hk)).2
      simp; omega
    · have := (h.apart k (.inr hk)).2
      simp; omega
  · have h4 := Kd.R_bound (Kd.R_grown hR hg4 (fun k hk => by have := hk.2.2.2.1; simp; omega))
    refine Kd.R_mono (Kd.R_grown h4 hg5 (fun k hk => by have := hk.1.2.2.2.2.1; simp; omega)) (fun k hk => ⟨fun h2 => ?_, hk.1.2⟩)
    have := hk.2.2.1
    omega
  · intro k hk
    rcases hk with hk | hk
    · refine ⟨hk.2, ?_⟩
      have := hk.1
      omega
    · have := h.apart k (.inr hk)
      omega
  · exact (hb3.setCell o2 _).grown hg5 (by have := hb3.size; omega) (by intro k hk; injection hk with hk; omega)
set_option maxHeartbeats 4000000 in
set_option maxRecDepth 100000 in
theorem fromBig_near {w : World} {g : Nat} {z : Int} (h : Big w g z) (hl : (D z.natAbs).length ≤ 50000) (hb : bits z.natAbs ≤ 2400) :
    Calls Tryz.prog 135 #[.pointer (some ⟨g, 0, none⟩)] w fun e w' => ∃ v, e = .returned (.tuple #[.agg #[.int .i64 (cm z 0), v], .bool true]) ∧ Kd.R (Kd.int .i64) 2 w' w.heap.size (fun _ => True) v (E z.natAbs) ∧ Below w.heap.size w w' := by
  have H := As_.mk h
  have HL := As_.mk hl
  have hg := h.lt
  obtain ⟨b, hbb⟩ : ∃ b : Int, (bits z.natAbs : Int) = b := ⟨_, rfl⟩
  have hb2 : b ≤ 2400 := by omega
  have HBB := As_.mk hbb
  clear h hl hb hbb
  go_enter Tryz.func135, Tryz.ntmps135
  go_wp2_with fail
  refine (BitLen_calls (H.out.below (ba_ (Below.refl _ _) _)) (Nat.le_trans HL.out (by decide))).mono ?_
  rintro e w1 ⟨rfl, hb⟩
  rw [HBB.out]
  have H1 := As_.mk ((H.out.below (ba_ (Below.refl _ _) _)).below hb)
  have hblk := (hb.block w.heap.size (by simp)).trans (heap_alloc_new w _)
  have HB := As_.mk (Below.trans (ba_ (Below.refl w.heap.size w) (.cells #[.int .i64 0, .slice none 0 0] 54)) (Below.mono hb (by simp)))
  have HBK := As_.mk hblk
  generalize hNN : w.heap.size = N2 at HBK ⊢
  have HN := As_.mk hNN
  clear hb hblk hNN
  go_wp2_with fail
  refine (Sign_calls H1.out).mono ?_
  rintro e w2 ⟨rfl, rfl⟩
  obtain ⟨sgn, hsgn⟩ : ∃ s : Int, cm z 0 = s := ⟨_, rfl⟩
  have HSG := As_.mk hsgn
  rw [hsgn]
  clear hsgn
  go_wp2_with fail
  have hW0 : Below w1.heap.size w1 ((w1.alloc (.cells #[.int .i64 sgn, .slice none 0 0] 54)).alloc (.cells #[.bool false, .slice none 0 0] 158)) := (ba_ (Below.refl _ _) _).alloc (by simp) _
  have hb4 : ((w1.alloc (.cells #[.int .i64 sgn, .slice none 0 0] 54)).alloc (.cells #[.bool false, .slice none 0 0] 158)).heap[w1.heap.size]? = some (.cells #[.int .i64 sgn, .slice none 0 0] 54 (0, 0)) := (Below.heap_alloc _ _ _ (by simp)).trans (heap_alloc_new w1 _)
  have hb5 : ((w1.alloc (.cells #[.int .i64 sgn, .slice none 0 0] 54)).alloc (.cells #[.bool false, .slice none 0 0] 158)).heap[w1.heap.size + 1]? = some (.cells #[.bool false, .slice none 0 0] 158 (0, 0)) := by
    have := heap_alloc_new (w1.alloc (.cells #[.int .i64 sgn, .slice none 0 0] 54)) (.cells #[.bool false, .slice none 0 0] 158)
    simpa using this
  have hN2 := heap_lt HBK.out
  have hb2 := (hW0.block N2 hN2).trans HBK.out
  have hsz : ((w1.alloc (.cells #[.int .i64 sgn, .slice none 0 0] 54)).alloc (.cells #[.bool false, .slice none 0 0] 158)).heap.size = w1.heap.size + 2 := by simp
  have hBW := HB.out.trans (Below.mono hW0 HB.out.size)
  have hbig := H1.out.below hW0
  have hold := HB.out.size
  generalize ((w1.alloc (.cells #[.int .i64 sgn, .slice none 0 0] 54)).alloc (.cells #[.bool false, .slice none 0 0] 158)) = W0 at hW0 hb4 hb5 hb2 hsz hBW hbig ⊢
  generalize hN4 : w1.heap.size = N4 at hb4 hb5 hsz hN2 hold ⊢
  obtain ⟨m, hm⟩ : ∃ m, z.natAbs = m := ⟨_, rfl⟩
  have HM := As_.mk hm
  have HBG := As_.mk hbig
  have HB4 := As_.mk hb4
  have HB2 := As_.mk hb2
  have HIC : As_ (Ic W0 (N4 + 1)) := ⟨⟨_, _, _, _, hb5⟩⟩
  have HBW := As_.mk hBW
  have HSZ := As_.mk hsz
  have HNN : As_ (N2 < N4 ∧ w.heap.size ≤ N4 ∧ w.heap.size = N2) := ⟨hN2, hold, HN.out⟩
  clear hb4 hb2 hb5 hBW hsz hbig hW0 hN2 hold hN4
  refine (Abs_calls HIC.out HBG.out (Nat.le_trans HL.out (by decide))).mono ?_
  rintro e W3 ⟨rfl, hbig, hg⟩
  rw [HM.out] at hbig
  have HB4' := As_.mk ((hg.block N4 (by have := HSZ.out; omega) (by simp)).trans HB4.out)
  have HB2' := As_.mk ((hg.block N2 (by have := HSZ.out; have := HNN.out; omega) (by have := HNN.out; simp; omega)).trans HB2.out)
  have HBG' := As_.mk hbig
  have HBW' := As_.mk (show Below w.heap.size w W3 from HBW.out.grown hg HBW.out.size (by intro k hk; injection hk with hk; have := HNN.out; omega))
  have HSZ' := As_.mk (show N4 + 2 ≤ W3.heap.size from by have := hg.size; have := HSZ.out; omega)
  clear hbig hg HB4 HB2 HBG HBW HSZ
  go_wp2_with fail
  refine (newInt_calls 16777215 (by decide) (by decide)).mono ?_
  rintro e W4 ⟨rfl, hbig, hb⟩
  obtain ⟨P, hP, hPu⟩ := Bigf.of_big' (HBG'.out.below hb)
  obtain ⟨Pm, hPm, hPmu⟩ := Bigf.of_big' hbig
  have hb4 := (hb.block N4 (by have := HSZ'.out; omega)).trans HB4'.out
  have hb2 := (hb.block N2 (by have := HSZ'.out; have := HNN.out; omega)).trans HB2'.out
  have hFbI : ∃ P Pm, FbI w N2 N4 (N4 + 1) W3.heap.size sgn m W4 (.slice none 0 0) [] m P Pm := by
    refine ⟨P, Pm, rfl, hb2, hb4, hP, hPm, Kd.R_nil _ _ _ _ _, ?_, by have := HNN.out; have := HSZ'.out; omega, HBW'.out.trans (hb.mono HBW'.out.size)⟩
    intro k hk
    have hu : Ub W4 k := hk.elim (hPu k) (hPmu k)
    exact ⟨hu.lt, hu.ne hb2 (by intro x h; cases h) (by intro x h; cases h), hu.ne hb4 (by intro x h; cases h) (by intro x h; cases h), hP.ne hu, hPm.ne hu⟩
  have HFB := As_.mk hFbI
  clear hFbI hb4 hb2 hPm hP hPu hPmu hbig hb HBW' HSZ' HBG' HB2' HB4'
  generalize W3.heap.size = N6 at HFB ⊢
  generalize N4 + 1 = N5 at HFB HIC ⊢
  clear HIC
  go_wp2_with fail
  go_loopg [] (m + 1) (fun kq w' => ∃ (v : Value) (ds : List Int) (r : Nat) (P Pm : Nat → Prop), As_ (FbI w N2 N4 N5 N6 sgn m w' v ds r P Pm) ∧ As_ (r < kq))
  case atStart =>
    obtain ⟨P, Pm, h⟩ := HFB.out
    exact ⟨_, _, _, P, Pm, ⟨h⟩, ⟨by omega⟩⟩
  case round =>
    obtain ⟨v, ds, r, P, Pm, HI, HR⟩ := hrel
    obtain ⟨A, c, rfl⟩ := Kd.R_slice HI.out.row
    have k0 := kc_ HI.out.b4 0
    have k1 := kc_ HI.out.b4 1
    have f0 := blk_free HI.out.b4 0
    have f1 := blk_free HI.out.b4 1
    have l0 := kc_ HI.out.b2 0
    have l1 := kc_ HI.out.b2 1
    have g0 := blk_free HI.out.b2 0
    have g1 := blk_free HI.out.b2 1
    simp only [List.getElem?_toArray, List.getElem?_cons_zero, List.getElem?_cons_succ] at k0 k1 l0 l1
    rcases Nat.eq_zero_or_pos r with rfl | hr
    · have hcm : cm ((0 : Nat) : Int) 0 = 0 := rfl
      have HCM := As_.mk hcm
      clear hcm
      have hds : ds = E m := by have := HI.out.val; rw [E_zero, List.append_nil] at this; exact this.symm
      have HDS := As_.mk hds
      clear hds
      go_wp2_with fail
      refine (Sign_calls HI.out.rest.big).mono ?_
      rintro e w5 ⟨rfl, rfl⟩
      rw [HCM.out]
      go_wp2_with fail
      have hend : ((wr.setCell ⟨N2, 0, none⟩ (.int .i64 sgn)).setCell ⟨N2, 1, none⟩ (.slice A ds.length c)).heap[N2]? = some (.cells #[.int .i64 sgn, .slice A ds.length c] 54 (0, 0)) := (blk_set (blk_set HI.out.b2 0 _) 1 _).trans rfl
      refine bodyPost_ret (results_agg rfl _ _ N2 54 #[.int .i64 sgn, .slice A ds.length c] (0, 0) _ rfl hend Tryz.underlying54 rfl (by kernel_rfl)) rfl ?_
      have hg : wr.grownBy ((wr.setCell ⟨N2, 0, none⟩ (.int .i64 sgn)).setCell ⟨N2, 1, none⟩ (.slice A ds.length c)) (some N2) := grown_set (grown_set (grown_below (Below.refl _ _) N2) _ _) _ _
      refine ⟨.slice A ds.length c, by rw [HSG.out]; rfl, ?_, bs_ (bs_ HI.out.below HI.out.old.1) HI.out.old.1⟩
      rw [HM.out, ← HDS.out]
      exact Kd.R_mono (Kd.R_grown HI.out.row hg (fun k hk he => by injection he with he; exact hk.2.2.1 he)) (fun _ _ => trivial)
    · have HRP := As_.mk hr
      have hcm : cm (r : Int) 0 = 1 := cm_gt (by omega)
      have HCM := As_.mk hcm
      obtain ⟨d, hd⟩ : ∃ d : Int, ((r % 16777216 : Nat) : Int) = d := ⟨_, rfl⟩
      have HD := As_.mk hd
      have HDSL : As_ ((ds.length + 1) * 8 ≤ 140737488355328) := ⟨by have h1 := HI.out.len; have h2 := E_len HL.out; rw [HM.out] at h2; omega⟩
      have HDL := As_.mk (show r % 16777216 < 4294967296 by omega)
      have h4 := heap_lt HI.out.b4
      have hrl : r ≤ m := HI.out.le
      have HRL := As_.mk hrl
      clear hcm hr hd hrl
      have ha4 := (Below.heap_alloc wr (.cells #[.bool false, .slice none 0 0] 158) _ h4).trans HI.out.b4
      have u1 : (wr.alloc (.cells #[.bool false, .slice none 0 0] 158)).drew.cell? ⟨N4, 1, none⟩ = some (.slice A ds.length c) := kc_ ha4 1
      have u2 : (wr.alloc (.cells #[.bool false, .slice none 0 0] 158)).drew.frozen? ⟨N4, 1, none⟩ = false := blk_free ha4 1
      generalize hv : Value.slice A ds.length c = v at *
      have HAL : As_ (Below wr.heap.size wr (wr.alloc (.cells #[.bool false, .slice none 0 0] 158)).drew) := ⟨(ba_ (Below.refl wr.heap.size wr) _).drew⟩
      clear ha4
      go_wp2_with fail
      refine (Sign_calls HI.out.rest.big).mono ?_
      rintro e w5 ⟨rfl, rfl⟩
      rw [HCM.out]
      go_wp2_with fail
      go_region_law
        (first
          | (go_simp; go_at_call 187; refine (And_calls (w := (wr.alloc (.cells #[.bool false, .slice none 0 0] 158)).drew) (new_ic wr) (HI.out.rest.big.below HAL.out) (HI.out.mask.big.below HAL.out) HRP.out).mono ?_; rintro e w2 ⟨rfl, hbig, hg⟩; have hb2 : Below wr.heap.size wr w2 := Below.trans HAL.out (below_of_grown hg (B := wr.heap.size) (Nat.le_refl _) (by simp)); have hb4 := (hb2.block N4 h4).trans HI.out.b4; have s1 : w2.cell? ⟨N4, 1, none⟩ = some v := kc_ hb4 1; have t1 : w2.frozen? ⟨N4, 1, none⟩ = false := blk_free hb4 1; have hp4 := (Below.heap_alloc w2 (.cells #[.int .i64 d] 2) N4 (heap_lt hb4)).trans hb4; have s2 : (w2.alloc (.cells #[.int .i64 d] 2)).cell? ⟨N4, 1, none⟩ = some v := kc_ hp4 1; have t2 : (w2.alloc (.cells #[.int .i64 d] 2)).frozen? ⟨N4, 1, none⟩ = false := blk_free hp4 1; have HB2 := As_.mk hb2; have HBG := As_.mk hbig; have HB4 := As_.mk hb4; clear hbig hg hb2 hb4 hp4)
          | (go_simp; go_at_call 188; refine (Int64_calls HBG.out HDL.out).mono ?_; rintro e w3 ⟨rfl, rfl⟩; rw [HD.out])
          | (refine Kd.R_append_step (Kd.int .i64) (w0 := w) (W := w2) w.heap.size (by rfl) (.tmp 22) (.tmp 28) 52 2 (.int .i64 0) 8 rfl Tryz.underlying52 info2 rfl (by decide) (by omega) v ds d [.int .i64 d] (fun k => ¬ P k ∧ ¬ Pm k ∧ k ≠ N2 ∧ k ≠ N4 ∧ k ≠ N5 ∧ k ≠ N6) (fun _ => False) rfl rfl ?aP (fun _ hk => hk.elim) ?aF ?aO ?aB ?aS ?aL ?_; (case aP => exact rfl); (case aB => exact HI.out.below.trans (HB2.out.mono HI.out.below.size)); (case aF => exact fun k hk => HI.out.fresh (Nat.le_trans HB2.out.size hk)); (case aO => exact Kd.R_below HI.out.row HB2.out); (case aS => exact Nat.le_trans HI.out.below.size HB2.out.size); (case aL => exact HDSL.out); intro v3 w3 ho hb hg hat; obtain ⟨A3, c3, e3⟩ := Kd.R_slice ho; rw [List.length_append, List.length_singleton] at e3; subst e3; have hb4 := (hg.block N4 (heap_lt HB4.out) (HI.out.own4)).trans HB4.out; have s3 : w3.cell? ⟨N4, 1, none⟩ = some v := kc_ hb4 1; have t3 : w3.frozen? ⟨N4, 1, none⟩ = false := blk_free hb4 1; have HO3 := As_.mk ho; have HB3 := As_.mk hb; have HG3 := As_.mk hg; have HB43 := As_.mk hb4; clear hat ho hb hg hb4))
      all_goals
        generalize hv3 : Value.slice A3 (ds.length + 1) c3 = v3 at HO3 ⊢
        have hg4 : w3.grownBy (w3.setCell ⟨N4, 1, none⟩ v3) (some N4) := grown_set (grown_below (Below.refl _ _) N4) _ _
        have hrest : Bigf (w3.setCell ⟨N4, 1, none⟩ v3) P N5 r := Bigf.grown (Bigf.grown (HI.out.rest.below HB2.out) HG3.out (fun k hk e => (HI.out.row.1 k e.symm).1 hk) (fun e => (HI.out.row.1 N5 e.symm).2.2.2.2.1 rfl)) hg4 (fun k hk => by have := (HI.out.apart k (.inl hk)).2; simp; omega) (by have := HI.out.old; simp; omega)
        have HW := As_.mk hrest.big
        clear hg4 hrest
        obtain ⟨w4, hw4⟩ : ∃ w4, w3.setCell ⟨N4, 1, none⟩ v3 = w4 := ⟨_, rfl⟩
        have HW4 := As_.mk hw4
        rw [hw4] at HW ⊢
        clear hw4
        have HRN := As_.mk (show (D r).length ≤ 100000 from Nat.le_trans (D_mono HRL.out) (by have := HL.out; rw [HM.out] at this; omega))
        go_wp2_with fail
        refine (Rsh_f (s := 24) HW.out.ic HW.out HRN.out (by decide)).mono ?_
        rintro e w5 ⟨rfl, hbf, hg5⟩
        have hnext := FbI.next HI.out HRP.out HB2.out (by rw [HD.out]; exact HO3.out) HB3.out HG3.out (by rw [HW4.out]; exact hbf) (by rw [HW4.out]; exact hg5)
        obtain ⟨P', Pm', hI'⟩ := hnext
        have HI' := As_.mk hI'
        clear hbf hg5 hI'
        go_wp2_with fail
        go_roundg (r / 16777216 + 1)
        case measure => have := HR.out; have := HRP.out; omega
        case rel => exact ⟨_, _, _, P', Pm', HI', ⟨by omega⟩⟩
def WholeIs (w0 w : World) (z : Int) (v : Value) : Prop := ∃ A c, v = .agg #[.int .i64 (cm z 0), .slice A (E z.natAbs).length c] ∧ Kd.R (Kd.int .i64) 2 w w0.heap.size (fun _ => True) (.slice A (E z.natAbs).length c) (E z.natAbs)
theorem two_cells {w : World} {N : Nat} {a b : Value} {t : TypeId} (h : w.heap[N]? = some (.cells #[a, b] t (0, 0))) (o : Obj) :
    (w.alloc o).cell? ⟨N, 0, none⟩ = some a ∧ (w.alloc o).cell? ⟨N, 1, none⟩ = some b ∧ (w.alloc o).frozen? ⟨N, 0, none⟩ = false ∧ (w.alloc o).frozen? ⟨N, 1, none⟩ = false ∧ (w.alloc o).heap[N]? = some (.cells #[a, b] t (0, 0)) := by
  have ha := (Below.heap_alloc w o N (heap_lt h)).trans h
  exact ⟨kc_ ha 0, kc_ ha 1, blk_free ha 0, blk_free ha 1, ha⟩
set_option maxHeartbeats 1000000 in
theorem whole_far {w : World} {g : Nat} {z : Int} (h : Big w g z) (hl : (D z.natAbs).length ≤ 50000) (hb : 2400 < bits z.natAbs) :
    Calls Tryz.prog 255 #[.pointer (some ⟨g, 0, none⟩)] w fun e w' => e = .returned (.tuple #[.agg #[.int .i64 0, .slice none 0 0], .int .i64 3]) ∧ Below w.heap.size w w' := by
  have H := As_.mk h
  have HL := As_.mk hl
  have HB := As_.mk hb
  clear h hl hb
  go_enter Tryz.func255, Tryz.ntmps255
  go_wp2_with fail
  refine (fromBig_far (H.out.below (ba_ (Below.refl _ _) _)) (Nat.le_trans HL.out (by decide)) HB.out).mono ?_
  rintro e w1 ⟨rfl, hb⟩
  have hblk := (hb.block w.heap.size (by simp)).trans (heap_alloc_new w _)
  have HBB := As_.mk (Below.trans (ba_ (Below.refl w.heap.size w) (.cells #[.int .i64 0, .slice none 0 0] 54)) (Below.mono hb (by simp)))
  obtain ⟨k0, k1, f0, f1, hk⟩ := two_cells hblk (.cells #[.int .i64 0, .slice none 0 0] 54)
  have HBK := As_.mk hk
  generalize hNN : w.heap.size = N at k0 k1 f0 f1 HBK HBB ⊢
  have HN := As_.mk hNN
  clear hb hblk hNN hk
  go_wp2_with fail
  have hend : (((w1.alloc (.cells #[.int .i64 0, .slice none 0 0] 54)).setCell ⟨N, 0, none⟩ (.int .i64 0)).setCell ⟨N, 1, none⟩ (.slice none 0 0)).heap[N]? = some (.cells #[.int .i64 0, .slice none 0 0] 54 (0, 0)) := (blk_set (blk_set HBK.out 0 _) 1 _).trans rfl
  refine bodyPost_ret (results_agg rfl _ _ N 54 #[.int .i64 0, .slice none 0 0] (0, 0) _ rfl hend Tryz.underlying54 rfl (by kernel_rfl)) rfl ?_
  have hb3 : Below w.heap.size w w1 := HN.out ▸ HBB.out
  exact ⟨rfl, bs_ (bs_ (hb3.alloc hb3.size _) (Nat.le_of_eq HN.out)) (Nat.le_of_eq HN.out)⟩
set_option maxHeartbeats 1000000 in
theorem whole_near {w : World} {g : Nat} {z : Int} (h : Big w g z) (hl : (D z.natAbs).length ≤ 50000) (hb : bits z.natAbs ≤ 2400) :
    Calls Tryz.prog 255 #[.pointer (some ⟨g, 0, none⟩)] w fun e w' => ∃ v, e = .returned (.tuple #[v, .int .i64 0]) ∧ WholeIs w w' z v ∧ Below w.heap.size w w' := by
  have H := As_.mk h
  have HL := As_.mk hl
  have HB := As_.mk hb
  clear h hl hb
  go_enter Tryz.func255, Tryz.ntmps255
  go_wp2_with fail
  refine (fromBig_near (H.out.below (ba_ (Below.refl _ _) _)) HL.out HB.out).mono ?_
  rintro e w1 ⟨v, rfl, hR, hb⟩
  obtain ⟨A, c, rfl⟩ := Kd.R_slice hR
  have hblk := (hb.block w.heap.size (by simp)).trans (heap_alloc_new w _)
  have hR2 := Kd.R_lower (base' := w.heap.size) (Kd.R_bound hR) (by simp)
  have HR := As_.mk (Kd.R_mono (ok' := fun k => w.heap.size < k ∧ k < w1.heap.size) hR2 (fun k hk => ⟨by have := hk.2.1; simp at this; omega, hk.2.2.1⟩))
  have HBB := As_.mk (Below.trans (ba_ (Below.refl w.heap.size w) (.cells #[.int .i64 0, .slice none 0 0] 54)) (Below.mono hb (by simp)))
  obtain ⟨k0, k1, f0, f1, hk⟩ := two_cells hblk (.cells #[.int .i64 (cm z 0), .slice A (E z.natAbs).length c] 54)
  have HBK := As_.mk hk
  generalize hNN : w.heap.size = N at k0 k1 f0 f1 HBK HBB HR ⊢
  have HN := As_.mk hNN
  clear hb hblk hNN hk hR hR2
  obtain ⟨s, hs⟩ : ∃ s, cm z 0 = s := ⟨_, rfl⟩
  obtain ⟨E0, hE⟩ : ∃ E0, E z.natAbs = E0 := ⟨_, rfl⟩
  rw [hs, hE] at k0 k1 f0 f1 HBK
  rw [hE] at HR
  have HS := As_.mk hs
  have HE := As_.mk hE
  rw [hs, hE]
  clear hs hE
  go_wp2_with fail
  have hend : (((w1.alloc (.cells #[.int .i64 s, .slice A E0.length c] 54)).setCell ⟨N, 0, none⟩ (.int .i64 s)).setCell ⟨N, 1, none⟩ (.slice A E0.length c)).heap[N]? = some (.cells #[.int .i64 s, .slice A E0.length c] 54 (0, 0)) := (blk_set (blk_set HBK.out 0 _) 1 _).trans rfl
  refine bodyPost_ret (results_agg rfl _ _ N 54 #[.int .i64 s, .slice A E0.length c] (0, 0) _ rfl hend Tryz.underlying54 rfl (by kernel_rfl)) rfl ?_
  have hb3 : Below w.heap.size w w1 := HN.out ▸ HBB.out
  have hg : (w1.alloc (.cells #[.int .i64 s, .slice A E0.length c] 54)).grownBy (((w1.alloc (.cells #[.int .i64 s, .slice A E0.length c] 54)).setCell ⟨N, 0, none⟩ (.int .i64 s)).setCell ⟨N, 1, none⟩ (.slice A E0.length c)) (some N) := grown_set (grown_set (grown_below (Below.refl _ _) N) _ _) _ _
  refine ⟨_, rfl, ⟨A, c, by rw [HS.out, HE.out], ?_⟩, bs_ (bs_ (hb3.alloc hb3.size _) (Nat.le_of_eq HN.out)) (Nat.le_of_eq HN.out)⟩
  rw [HE.out]
  exact Kd.R_mono (Kd.R_grown (Kd.R_alloc (HN.out ▸ HR.out) _) hg (fun k hk he => by injection he with he; have := hk.1; have := HN.out; omega)) (fun _ _ => trivial)
def up (ds : List Int) (i : Nat) : Nat := (vl 16777216 (ds.drop i)).toNat
theorem up_end (ds : List Int) : up ds ds.length = 0 := by unfold up; rw [List.drop_of_length_le (Nat.le_refl _)]; rfl
theorem up_step {ds : List Int} (hd : Dg 16777216 ds) {i : Nat} (h : i < ds.length) : ∃ y : Nat, ds.getD i 0 = y ∧ y < 16777216 ∧ up ds i = up ds (i + 1) * 2 ^ 24 + y := by
  obtain ⟨h0, h1⟩ := hd.getD (by omega) i
  refine ⟨(ds.getD i 0).toNat, by omega, by omega, ?_⟩
  unfold up
  rw [drop_getD ds i h, vl_cons]
  have h2 := vl_nonneg (hd.drop (i + 1))
  generalize vl 16777216 (ds.drop (i + 1)) = x at *
  generalize ds.getD i 0 = y at *
  omega
theorem up_len' {ds : List Int} {L : Nat} (hd : Dg 16777216 ds) (hl : ds.length ≤ L) (i : Nat) : (D (up ds i)).length ≤ L := by
  refine D_le ?_
  unfold up
  have h1 := vl_lt (hd.drop i)
  have h2 := vl_nonneg (hd.drop i)
  have h3 : (16777216 : Nat) ^ (ds.drop i).length ≤ 4294967296 ^ L :=
    Nat.le_trans (Nat.pow_le_pow_left (by decide) _) (Nat.pow_le_pow_right (by decide) (by rw [List.length_drop]; omega))
  generalize (4294967296 : Nat) ^ L = Z at *
  have h4 : ((16777216 : Nat) ^ (ds.drop i).length : Nat) = ((16777216 : Int) ^ (ds.drop i).length) := by rw [Int.natCast_pow]; rfl
  generalize (16777216 : Nat) ^ (ds.drop i).length = Y at *
  omega
theorem up_len {ds : List Int} (hd : Dg 16777216 ds) (hl : ds.length ≤ 300) (i : Nat) : (D (up ds i)).length ≤ 300 := up_len' hd hl i
theorem big_nil {w : World} {g : Nat} (h : w.heap[g]? = some (.cells #[.bool false, .slice none 0 0] 158 (0, 0))) : Big w g ((0 : Nat) : Int) := by
  have e : D (((0 : Nat) : Int)).natAbs = [] := D_zero
  refine ⟨_, h, none, 0, by rw [e]; rfl, by rw [e]; exact Nat.le_refl _, by rw [e]; exact Kd.C_nil _ _⟩
set_option maxHeartbeats 2000000 in
theorem toBig_calls {w : World} {A : Option Addr} {c : Nat} {sgn : Int} {ds : List Int} (hc : Kd.C (Kd.int .i64) w A ds.length ds) (hd : Dg 16777216 ds) (hl : ds.length ≤ 300) :
    Calls Tryz.prog 259 #[.agg #[.int .i64 sgn, .slice A ds.length c]] w fun e w' => ∃ g, e = .returned (.pointer (some ⟨g, 0, none⟩)) ∧ w.heap.size ≤ g ∧ Big w' g (if sgn < 0 then -((up ds 0 : Nat) : Int) else (up ds 0 : Nat)) ∧ Below w.heap.size w w' := by
  obtain ⟨Z, hZ⟩ : ∃ Z : Int, (if sgn < 0 then -((up ds 0 : Nat) : Int) else (up ds 0 : Nat)) = Z := ⟨_, rfl⟩
  rw [hZ]
  have HZ := As_.mk hZ
  clear hZ
  have HC := As_.mk hc
  have HD := As_.mk hd
  have HL := As_.mk hl
  have h1 : IntKind.i64.wrap ((ds.length : Int) - 1) = (ds.length : Int) - 1 := by rw [i64_w, w64 (by omega) (by omega)]
  have hb1 : (w.alloc (.cells #[.int .i64 sgn, .slice A ds.length c] 54)).heap[w.heap.size]? = _ := heap_alloc_new w _
  have hb3 : ((w.alloc (.cells #[.int .i64 sgn, .slice A ds.length c] 54)).alloc (.cells #[.bool false, .slice none 0 0] 158)).heap[w.heap.size]? = some (.cells #[.int .i64 sgn, .slice A ds.length c] 54 (0, 0)) := (Below.heap_alloc _ _ _ (by simp)).trans hb1
  have hb4 : ((w.alloc (.cells #[.int .i64 sgn, .slice A ds.length c] 54)).alloc (.cells #[.bool false, .slice none 0 0] 158)).heap[w.heap.size + 1]? = some (.cells #[.bool false, .slice none 0 0] 158 (0, 0)) := by
    have := heap_alloc_new (w.alloc (.cells #[.int .i64 sgn, .slice A ds.length c] 54)) (.cells #[.bool false, .slice none 0 0] 158)
    simpa using this
  have hbw : Below w.heap.size w ((w.alloc (.cells #[.int .i64 sgn, .slice A ds.length c] 54)).alloc (.cells #[.bool false, .slice none 0 0] 158)) := (ba_ (Below.refl _ _) _).alloc (by simp) _
  have HB3 := As_.mk hb3
  have HB4 := As_.mk hb4
  have HBW := As_.mk hbw
  clear hc hd hl hb1 hb3 hb4 hbw
  go_enter Tryz.func259, Tryz.ntmps259
  go_wp2_with fail
  have HN := As_.mk (show w.heap.size < w.heap.size + 1 by omega)
  generalize ((w.alloc (.cells #[.int .i64 sgn, .slice A ds.length c] 54)).alloc (.cells #[.bool false, .slice none 0 0] 158)) = W0 at HB3 HB4 HBW ⊢
  generalize w.heap.size + 1 = N3 at HB4 HN ⊢
  obtain ⟨N1, hN1⟩ : ∃ N1, w.heap.size = N1 := ⟨_, rfl⟩
  have HN1 := As_.mk hN1
  rw [hN1] at HB3 HN ⊢
  clear hN1 h1
  go_loopg [4] (ds.length + 1) (fun kq v4 w' => ∃ (i : Nat), v4 = .int .i64 ((i : Int) - 1) ∧ As_ (i ≤ ds.length ∧ i < kq) ∧ As_ (Big w' N3 (up ds i : Nat)) ∧ As_ (w'.heap[N1]? = some (.cells #[.int .i64 sgn, .slice A ds.length c] 54 (0, 0))) ∧ As_ (Below w.heap.size w w'))
  case atStart => exact ⟨ds.length, rfl, ⟨Nat.le_refl _, by omega⟩, ⟨by rw [up_end]; exact big_nil HB4.out⟩, HB3, HBW⟩
  case round =>
    obtain ⟨i, rfl, HI, HBIG, HBK, HB⟩ := hrel
    have k0 := kc_ HBK.out 0
    have k1 := kc_ HBK.out 1
    simp only [List.getElem?_toArray, List.getElem?_cons_zero, List.getElem?_cons_succ] at k0 k1
    rcases Nat.eq_zero_or_pos i with rfl | hi
    · rw [show (((0 : Nat) : Int) - 1) = -1 from rfl]
      have HLEN := As_.mk (up_len HD.out HL.out 0)
      by_cases hs : sgn < 0
      · have hsd : decide (sgn < 0) = true := decide_eq_true hs
        have hz := HZ.out
        rw [if_pos hs] at hz
        have HZ2 := As_.mk hz
        clear hz hs
        go_wp2_with fail
        refine (Neg_calls HBIG.out.ic HBIG.out (by rw [Int.natAbs_natCast]; exact Nat.le_trans HLEN.out (by decide))).mono ?_
        rintro e w5 ⟨rfl, hbig, hg⟩
        have HBG := As_.mk hbig
        have HG := As_.mk hg
        clear hbig hg
        go_wp2_with fail
        go_ret
        exact ⟨N3, rfl, by have := HN.out; have := HN1.out; omega, HZ2.out ▸ HBG.out, HB.out.grown HG.out HB.out.size (by intro k hk; injection hk with hk; have := HN.out; have := HN1.out; omega)⟩
      · have hsd : decide (sgn < 0) = false := decide_eq_false hs
        have hz := HZ.out
        rw [if_neg hs] at hz
        have HZ2 := As_.mk hz
        clear hz hs
        go_wp2_with fail
        go_ret
        exact ⟨N3, rfl, by have := HN.out; have := HN1.out; omega, HZ2.out ▸ HBIG.out, HB.out⟩
    · obtain ⟨j, rfl⟩ : ∃ j, i = j + 1 := ⟨i - 1, by omega⟩
      rw [show (((j + 1 : Nat) : Int) - 1) = (j : Int) by omega]
      have hj : (j : Int) < (ds.length : Int) := by have := HI.out.1; omega
      have hj0 : (0 : Int) ≤ (j : Int) := by omega
      obtain ⟨y, hy, hyl, hup⟩ := up_step HD.out (show j < ds.length by omega)
      obtain ⟨ad, rfl, hx⟩ := Kd.at_int (Kd.C_below HC.out HB.out) (j : Int) hj0 hj
      rw [rd_getD, hy, Int.toNat_natCast] at hx
      have hw1 : IntKind.i64.wrap ((j : Int) - 1) = (j : Int) - 1 := by rw [i64_w, w64 (by have := HL.out; omega) (by have := HL.out; omega)]
      have HLEN := As_.mk (up_len HD.out HL.out (j + 1))
      have HYL := As_.mk hyl
      have HUP := As_.mk hup
      have HX := As_.mk hx
      clear hy hyl hup hi hx
      have hadl : ad.block < N1 := by
        obtain ⟨ad', e, h⟩ := Kd.at_int HC.out (j : Int) hj0 hj
        injection e with e
        subst e
        have h2 := cell_lt h
        have h3 := HN1.out
        have h4 : (ad.add j).block = ad.block := by unfold Addr.add; split <;> rfl
        rw [Int.toNat_natCast] at h2
        omega
      have hadb : (ad.add j).block = ad.block := by unfold Addr.add; split <;> rfl
      have HADL : As_ ((ad.add j).block < N1) := ⟨by rw [hadb]; exact hadl⟩
      have HN3 := As_.mk (heap_lt HBK.out)
      clear hadb hadl
      go_wp2_with fail
      refine (Lsh_calls (n := 24) HBIG.out.ic HBIG.out (by rw [Int.natAbs_natCast]; exact Nat.le_trans HLEN.out (by decide)) (by decide)).mono ?_
      rintro e w2 ⟨rfl, hbig, hg⟩
      have hbk := (hg.block N1 HN3.out (by have := HN.out; simp; omega)).trans HBK.out
      have k0 := kc_ hbk 0
      have k1 := kc_ hbk 1
      simp only [List.getElem?_toArray, List.getElem?_cons_zero, List.getElem?_cons_succ] at k0 k1
      have hx := (hg.cell HX.out (by have := HN.out; have := HADL.out; simp; omega))
      have HBG := As_.mk hbig
      have HG := As_.mk hg
      have HBK2 := As_.mk hbk
      clear hbig hg hbk
      go_wp2_with fail
      refine (newInt_calls (y : Int) (by omega) (by have := HYL.out; omega)).mono ?_
      rintro e w3 ⟨rfl, hbig, hb⟩
      have hX : Big w3 N3 ((up ds (j + 1) * 2 ^ 24 : Nat) : Int) := by
        have := HBG.out.below hb
        rw [Int.natCast_mul, Int.natCast_pow]
        exact this
      have HX3 := As_.mk hX
      have HY3 := As_.mk hbig
      have HB3' := As_.mk hb
      have HBK3 := As_.mk ((hb.block N1 (heap_lt HBK2.out)).trans HBK2.out)
      have HLEN2 := As_.mk (show (D (up ds (j + 1) * 2 ^ 24)).length ≤ 50000 from Nat.le_trans (mul_len (Nat.le_trans HLEN.out (by decide)) (by decide)) (by decide))
      clear hX hbig hb
      go_wp2_with fail
      refine (Or_calls HX3.out.ic HX3.out HY3.out (by omega) HYL.out HLEN2.out).mono ?_
      rintro e w4 ⟨rfl, hbig, hg⟩
      rw [← HUP.out] at hbig
      have HBG4 := As_.mk hbig
      have hbk4 := (hg.block N1 (heap_lt HBK3.out) (by have := HN.out; simp; omega)).trans HBK3.out
      have HBK4 := As_.mk hbk4
      have HW4 : As_ (Below w.heap.size w w4) := ⟨((HB.out.grown HG.out HB.out.size (by intro k hk; injection hk with hk; have := HN.out; have := HN1.out; omega)).trans (HB3'.out.mono (Nat.le_trans HB.out.size HG.out.size))).grown hg (Nat.le_trans HB.out.size (Nat.le_trans HG.out.size HB3'.out.size)) (by intro k hk; injection hk with hk; have := HN.out; have := HN1.out; omega)⟩
      clear hbig hg hbk4
      go_wp2_with fail
      go_roundg (j + 1)
      case measure => have := HI.out; omega
      case rel => exact ⟨j, rfl, ⟨by have := HI.out; omega, by omega⟩, HBG4, HBK4, HW4⟩
end Go.Proofs.YtlogcnglmdpejaaGreatDoor.Hd
end
