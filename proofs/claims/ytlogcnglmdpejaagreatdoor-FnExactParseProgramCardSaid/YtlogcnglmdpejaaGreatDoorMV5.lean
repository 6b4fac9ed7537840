/- Part 5 of the proof of the card of FnExactV: walks of the functions and plain facts on them. -/
import Derived.Test.YtlogcnglmdpejaaGreatDoorMV3
import Derived.Test.YtlogcnglmdpejaaGreatDoorMV4
import Derived.Laws.BitsAllLaws
section
namespace Go.Proofs.YtlogcnglmdpejaaGreatDoor.Pq
open Go.RowKit Go.Proofs.YtlogcnglmdpejaaGreatDoorW.PrintWords Go.Proofs.YtlogcnglmdpejaaGreatDoorW.PrintLast Go.Proofs.YtlogcnglmdpejaaGreatDoorW.PrintMore
attribute [local go_sem] max2_int min2_int max_two min_two max_three min_three max_four min_four
set_option linter.unusedVariables false
set_option linter.unusedSimpArgs false
def impl_magRight.l0 : Nat → List Int → Int → List Int → List Int → Int → Int → Option (List Int)
 | 0, _, _, _, _, _, _ => none
 | k + 1, x0, x1, x5, x22, x23, x24 => if x24 < x23 then (if 0 ≤ x24 then (if x24 < (x22.length : Int) then (if (wrap64 (x24 + 1)) < (x0.length : Int) then (if 0 ≤ (wrap64 (x24 + 1)) then (if 0 ≤ (Int.tmod x1 32) then (if x24 < (x5.length : Int) then (impl_magRight.l0 k x0 x1 (x5.set (x24 : Int).toNat ((shr .u64 (Go.bits .or .u64 (IntKind.u64.wrap (rd x22 x24)) (IntKind.u64.wrap ((IntKind.u64.wrap (rd x0 (wrap64 (x24 + 1)))) * 4294967296))) (Int.tmod x1 32)) % 4294967296)) x22 x23 (wrap64 (x24 + 1))) else (none)) else (none)) else (none)) else (if 0 ≤ (Int.tmod x1 32) then (if x24 < (x5.length : Int) then (impl_magRight.l0 k x0 x1 (x5.set (x24 : Int).toNat ((shr .u64 (IntKind.u64.wrap (rd x22 x24)) (Int.tmod x1 32)) % 4294967296)) x22 x23 (wrap64 (x24 + 1))) else (none)) else (none))) else (none)) else (none)) else ((impl_magTrim.f k x5).bind fun t361 => (some t361))
def impl_magRight.f (k : Nat) (l0 : List Int) (a1 : Int) : Option (List Int) := if (IntKind.u64.wrap ((l0.length : Int))) ≤ (IntKind.u64.wrap (Int.tdiv a1 32)) then (some ([] : List Int)) else (if 0 ≤ (IntKind.u64.wrap (Int.tdiv a1 32)) then (if (IntKind.u64.wrap (Int.tdiv a1 32)) ≤ (l0.length : Int) then (if 0 ≤ ((l0.drop ((IntKind.u64.wrap (Int.tdiv a1 32)) : Int).toNat).length : Int) then (if (((l0.drop ((IntKind.u64.wrap (Int.tdiv a1 32)) : Int).toNat).length : Int) : Int).toNat ≤ 70368744177664 then (impl_magRight.l0 k (l0.drop ((IntKind.u64.wrap (Int.tdiv a1 32)) : Int).toNat) a1 (List.replicate (((l0.drop ((IntKind.u64.wrap (Int.tdiv a1 32)) : Int).toNat).length : Int) : Int).toNat 0) (l0.drop ((IntKind.u64.wrap (Int.tdiv a1 32)) : Int).toNat) ((l0.drop ((IntKind.u64.wrap (Int.tdiv a1 32)) : Int).toNat).length : Int) 0) else (none)) else (none)) else (none)) else (none))
set_option maxHeartbeats 8000000 in
set_option maxRecDepth 100000 in
theorem impl_magRight.calls (k : Nat) (A0 : Option Addr) (c0 : Nat) (l0 : List Int) (a1 : Int) (r : List Int) (w : World) (hr0 : Kd.C (Kd.int .u32) w A0 l0.length l0) (hc0 : l0.length ≤ c0) (h : impl_magRight.f k l0 a1 = some r) :
  Calls Tryz.prog 177 #[.slice A0 l0.length c0, .int .u64 a1] w fun e w' => ∃ v0_ : Value, e = .returned (v0_) ∧ Kd.V (Kd.int .u32) 202 w' w.heap.size (fun k_ => (w.heap.size ≤ k_)) v0_ r ∧ Below w.heap.size w w' := by
 have HR0 := As_.mk hr0
 have HC0 := As_.mk hc0
 clear hr0 hc0
 have HB := As_.mk (Below.refl w.heap.size w)
 have H : (if (IntKind.u64.wrap ((l0.length : Int))) ≤ (IntKind.u64.wrap (Int.tdiv a1 32)) then (some ([] : List Int)) else (if 0 ≤ (IntKind.u64.wrap (Int.tdiv a1 32)) then (if (IntKind.u64.wrap (Int.tdiv a1 32)) ≤ (l0.length : Int) then (if 0 ≤ ((l0.drop ((IntKind.u64.wrap (Int.tdiv a1 32)) : Int).toNat).length : Int) then (if (((l0.drop ((IntKind.u64.wrap (Int.tdiv a1 32)) : Int).toNat).length : Int) : Int).toNat ≤ 70368744177664 then (impl_magRight.l0 k (l0.drop ((IntKind.u64.wrap (Int.tdiv a1 32)) : Int).toNat) a1 (List.replicate (((l0.drop ((IntKind.u64.wrap (Int.tdiv a1 32)) : Int).toNat).length : Int) : Int).toNat 0) (l0.drop ((IntKind.u64.wrap (Int.tdiv a1 32)) : Int).toNat) ((l0.drop ((IntKind.u64.wrap (Int.tdiv a1 32)) : Int).toNat).length : Int) 0) else (none)) else (none)) else (none)) else (none))) = some r := h
 clear h
 by_cases c3 : (IntKind.u64.wrap ((l0.length : Int))) ≤ (IntKind.u64.wrap (Int.tdiv a1 32))
 ·rw [if_pos c3] at H
  have c3b0 : decide ((IntKind.u64.wrap ((l0.length : Int))) ≤ (IntKind.u64.wrap (Int.tdiv a1 32))) = true := decide_eq_true c3
  clear c3
  obtain rfl := Option.some.inj H
  go_enter Tryz.func177, Tryz.ntmps177
  go_wp2
  go_ret
  exact ⟨.slice none 0 0, by first | rfl | (simp [eN_, eS_] <;> rfl) | (simp [*, eN_, eS_] <;> rfl), Kd.V_nil _ _ _ _ _, by repeat (first | (with_reducible first | exact HB.out | apply ba_ | apply pN_ | apply bd_) | exact HB.out)⟩
 ·rw [if_neg c3] at H
  have c3b0 : decide ((IntKind.u64.wrap ((l0.length : Int))) ≤ (IntKind.u64.wrap (Int.tdiv a1 32))) = false := decide_eq_false c3
  clear c3
  obtain ⟨ji4, hji4⟩ : ∃ j_ : Int, (IntKind.u64.wrap (Int.tdiv a1 32)) = j_ := ⟨_, rfl⟩
  replace H : (if 0 ≤ (ji4) then (if (ji4) ≤ (l0.length : Int) then (if 0 ≤ ((l0.drop ((ji4) : Int).toNat).length : Int) then (if (((l0.drop ((ji4) : Int).toNat).length : Int) : Int).toNat ≤ 70368744177664 then (impl_magRight.l0 k (l0.drop ((ji4) : Int).toNat) a1 (List.replicate (((l0.drop ((ji4) : Int).toNat).length : Int) : Int).toNat 0) (l0.drop ((ji4) : Int).toNat) ((l0.drop ((ji4) : Int).toNat).length : Int) 0) else (none)) else (none)) else (none)) else (none)) = some r := by first | (rw [hji4] at H; exact H) | (simp only [hji4] at H ⊢; exact H)
  (try rw [hji4] at c3b0)
  by_cases c5 : 0 ≤ (ji4)
  ·rw [if_pos c5] at H
   have c5b0 := eq_true c5
   have c5b1 : decide (0 ≤ (ji4)) = true := decide_eq_true c5
   clear c5
   by_cases c6 : (ji4) ≤ (l0.length : Int)
   ·rw [if_pos c6] at H
    have c6b0 := eq_true c6
    have c6b1 : decide ((ji4) ≤ (l0.length : Int)) = true := decide_eq_true c6
    clear c6
    obtain ⟨ys9, hys9⟩ : ∃ y_ : List Int, (l0.drop ((ji4) : Int).toNat) = y_ := ⟨_, rfl⟩
    rw [hys9] at H
    by_cases c7 : 0 ≤ (ys9.length : Int)
    ·rw [if_pos c7] at H
     have c7b0 := eq_true c7
     have c7b1 : decide (0 ≤ (ys9.length : Int)) = true := decide_eq_true c7
     clear c7
     by_cases c8 : ((ys9.length : Int) : Int).toNat ≤ 70368744177664
     ·rw [if_pos c8] at H
      have c8b0 := eq_true c8
      have c8b1 : decide (((ys9.length : Int) : Int).toNat ≤ 70368744177664) = true := decide_eq_true c8
      clear c8
      obtain ⟨y354, hy354⟩ : ∃ y_ : List Int, y_ = (List.replicate ((ys9.length : Int) : Int).toNat 0) := ⟨_, rfl⟩
      replace H : (impl_magRight.l0 k ys9 a1 y354 ys9 (ys9.length : Int) 0) = some r := by first | (rw [hy354]; with_reducible exact H) | (have H2_ := (Option.bind_some _ _).symm.trans H; rw [hy354]; with_reducible exact H2_) | (have H2_ := (Option.bind_some _ _).symm.trans H; with_reducible exact H2_) | with_reducible exact H | (rw [hy354]; exact H) | exact H
      have Ny354 := As_.mk hy354
      clear hy354
      have H' := As_.mk H
      clear H
      obtain ⟨i09, hi09, _, hsz9, _⟩ := info_parts info202
      obtain ⟨A9, hcut9, hA9, hC9⟩ := print_drop_of (P := Tryz.prog) (Value.int .u32) 0 156 202 .u64 Tryz.underlying156 hi09 hsz9 A0 c0 l0 (ji4) (of_decide_eq_true (by first | (with_reducible assumption) | assumption)) (of_decide_eq_true (by first | (with_reducible assumption) | assumption)) HC0.out
      simp only [hys9] at hcut9 hA9 hC9
      clear hys9
      have HR353 := As_.mk (Kd.C_of_reads (h1 := fun _ => rfl) (hA9 _ (Kd.reads_of_C HR0.out)))
      have HC353 := As_.mk hC9
      clear hA9 hC9 hi09 hsz9
      go_enter Tryz.func177, Tryz.ntmps177
      go_wp2_with (first | ((with_reducible refine gate_dst (N := 21) rfl ?_); refine Kd.R_make (Kd.int .u32) _ 202 rfl (N := 21) rfl 156 _ _ rfl (ys9.length : Int) rfl rfl Tryz.underlying156 (.int .u32 0) 4 info202 rfl (by decide) (by omega) 0 (ok := fun _ => True) (okp := fun _ => True) rfl (fun _ hk => hk) trivial (of_decide_eq_true (by first | (with_reducible assumption) | assumption)) (Nat.le_trans (Nat.mul_le_mul_right _ (of_decide_eq_true (by first | (with_reducible assumption) | assumption) : (ys9.length : Int).toNat ≤ 70368744177664)) (by omega)) (Below.refl _ _) (Nat.le_refl _) ?_; intro v355 w10 ho11 hb hg_ hnew_; clear hg_ hnew_; (first | rw [← Ny354.out] at ho11 | (simp only [Int.reduceToNat] at ho11; rw [← Ny354.out] at ho11)); have n0_ := As_.mk (Kd.R_lower (Kd.R_newM (M := fun k_ => (w.heap.size ≤ k_)) ho11 (bz_ (by repeat (first | (with_reducible first | exact HB.out | apply ba_ | apply pN_ | apply bd_) | exact HB.out))) (fun k_ h_ => h_)) (bz_ (by repeat (first | (with_reducible first | exact HB.out | apply ba_ | apply pN_ | apply bd_) | exact HB.out)))); have n1_ := As_.mk (bp_ (by repeat (first | (with_reducible first | exact HB.out | apply ba_ | apply pN_ | apply bd_) | exact HB.out)) hb); clear HB; have HO356 := n0_; have HB := n1_; clear n0_ n1_; clear hb ho11))
      go_loopg [24] k (fun kq v24 w' => ∃ (x5_1 : List Int) (x24_1 : Int), v24 = .int .i64 x24_1 ∧ As_ (impl_magRight.l0 kq ys9 a1 x5_1 ys9 (ys9.length : Int) x24_1 = some r) ∧ As_ (kq ≤ k) ∧ As_ (Kd.R (Kd.int .u32) 202 w' w.heap.size (fun k_ => (w.heap.size ≤ k_)) v355 x5_1) ∧ As_ (Below w.heap.size w w'))
      case atStart => exact ⟨(y354), (0), (by first | rfl | (simp; done) | (simp [*]; done)), H', ⟨Nat.le_refl _⟩, ⟨by (with_reducible repeat (first | apply Kd.R_alloc | apply Kd.R_drewN | apply Kd.R_drew)); exact Kd.R_mono HO356.out (fun _ hk => hk.1)⟩, ⟨by repeat (first | (with_reducible first | exact HB.out | apply ba_ | apply pN_ | apply bd_) | exact HB.out)⟩⟩
      case round =>
       clear H'
       try clear c1
       try clear p2
       try clear c3
       try clear c3b0
       try clear c5
       try clear c5b0
       try clear c5b1
       try clear c6
       try clear c6b0
       try clear c6b1
       try clear c7
       try clear c7b0
       try clear c7b1
       try clear c8
       try clear c8b0
       try clear c8b1
       obtain ⟨x5_1, x24_1, rfl, HA, HK1, HO_5, HB⟩ := hrel
       cases gk with
       | zero => exact absurd HA.out (by simp [impl_magRight.l0])
       | succ k1 =>
        have H := HA.out
        clear HA
        simp only [impl_magRight.l0] at H
        by_cases c12 : x24_1 < (ys9.length : Int)
        ·rw [if_pos c12] at H
         have c12b0 : decide (x24_1 < (ys9.length : Int)) = true := decide_eq_true c12
         clear c12
         by_cases c13 : 0 ≤ x24_1
         ·rw [if_pos c13] at H
          have c13b0 : decide (0 ≤ x24_1) = true := decide_eq_true c13
          clear c13
          by_cases c14 : x24_1 < (ys9.length : Int)
          ·rw [if_pos c14] at H
           have c14b0 : decide (x24_1 < (ys9.length : Int)) = true := decide_eq_true c14
           clear c14
           by_cases c15 : (wrap64 (x24_1 + 1)) < (ys9.length : Int)
           ·rw [if_pos c15] at H
            have c15b0 : decide ((wrap64 (x24_1 + 1)) < (ys9.length : Int)) = true := decide_eq_true c15
            clear c15
            obtain ⟨ji16, hji16⟩ : ∃ j_ : Int, (wrap64 (x24_1 + 1)) = j_ := ⟨_, rfl⟩
            replace H : (if 0 ≤ (ji16) then (if 0 ≤ (Int.tmod a1 32) then (if x24_1 < (x5_1.length : Int) then (impl_magRight.l0 k1 ys9 a1 (x5_1.set (x24_1 : Int).toNat ((shr .u64 (Go.bits .or .u64 (IntKind.u64.wrap (rd ys9 x24_1)) (IntKind.u64.wrap ((IntKind.u64.wrap (rd ys9 (ji16))) * 4294967296))) (Int.tmod a1 32)) % 4294967296)) ys9 (ys9.length : Int) ji16) else (none)) else (none)) else (none)) = some r := by first | (rw [hji16] at H; exact H) | (simp only [hji16] at H ⊢; exact H)
            (try rw [hji16] at c15b0)
            have hji16w : (IntKind.i64.wrap (x24_1 + 1)) = ji16 := (i64_w _).trans hji16
            by_cases c17 : 0 ≤ (ji16)
            ·rw [if_pos c17] at H
             have c17b0 : decide (0 ≤ (ji16)) = true := decide_eq_true c17
             clear c17
             obtain ⟨ji18, hji18⟩ : ∃ j_ : Int, (Int.tmod a1 32) = j_ := ⟨_, rfl⟩
             replace H : (if 0 ≤ (ji18) then (if x24_1 < (x5_1.length : Int) then (impl_magRight.l0 k1 ys9 a1 (x5_1.set (x24_1 : Int).toNat ((shr .u64 (Go.bits .or .u64 (IntKind.u64.wrap (rd ys9 x24_1)) (IntKind.u64.wrap ((IntKind.u64.wrap (rd ys9 (ji16))) * 4294967296))) (ji18)) % 4294967296)) ys9 (ys9.length : Int) ji16) else (none)) else (none)) = some r := by first | (rw [hji18] at H; exact H) | (simp only [hji18] at H ⊢; exact H)
             by_cases c19 : 0 ≤ (ji18)
             ·rw [if_pos c19] at H
              have c19b0 := eq_true c19
              have c19b1 : decide (0 ≤ (ji18)) = true := decide_eq_true c19
              clear c19
              obtain ⟨ji20, hji20⟩ : ∃ j_ : Int, (shr .u64 (Go.bits .or .u64 (IntKind.u64.wrap (rd ys9 x24_1)) (IntKind.u64.wrap ((IntKind.u64.wrap (rd ys9 (ji16))) * 4294967296))) (ji18)) = j_ := ⟨_, rfl⟩
              replace H : (if x24_1 < (x5_1.length : Int) then (impl_magRight.l0 k1 ys9 a1 (x5_1.set (x24_1 : Int).toNat ((ji20) % 4294967296)) ys9 (ys9.length : Int) ji16) else (none)) = some r := by first | (rw [hji20] at H; exact H) | (simp only [hji20] at H ⊢; exact H)
              have hji20_ : ((Go.bits .or .u64 (IntKind.u64.wrap (rd ys9 x24_1)) (IntKind.u64.wrap ((IntKind.u64.wrap (rd ys9 (ji16))) * 4294967296))) / 2 ^ min (ji18).toNat 64) = ji20 := hji20
              have hji20z : (ji18) ≤ 64 → ((Go.bits .or .u64 (IntKind.u64.wrap (rd ys9 x24_1)) (IntKind.u64.wrap ((IntKind.u64.wrap (rd ys9 (ji16))) * 4294967296))) / 2 ^ (ji18).toNat) = ji20 := shr_small hji20
              by_cases c21 : x24_1 < (x5_1.length : Int)
              ·rw [if_pos c21] at H
               have c21b0 : decide (x24_1 < (x5_1.length : Int)) = true := decide_eq_true c21
               clear c21
               obtain ⟨y359, hy359⟩ : ∃ y_ : List Int, y_ = (x5_1.set (x24_1 : Int).toNat ((ji20) % 4294967296)) := ⟨_, rfl⟩
               replace H : (impl_magRight.l0 k1 ys9 a1 y359 ys9 (ys9.length : Int) ji16) = some r := by first | (rw [hy359]; with_reducible exact H) | (have H2_ := (Option.bind_some _ _).symm.trans H; rw [hy359]; with_reducible exact H2_) | (have H2_ := (Option.bind_some _ _).symm.trans H; with_reducible exact H2_) | with_reducible exact H | (rw [hy359]; exact H) | exact H
               have Ny359 := As_.mk hy359
               clear hy359
               have H' := As_.mk H
               clear H
               have p357 : 0 ≤ (x24_1 : Int) := of_decide_eq_true (by first | (with_reducible assumption) | assumption)
               have q357 : x24_1 < (ys9.length : Int) := of_decide_eq_true (by first | (with_reducible assumption) | assumption)
               obtain ⟨ad357, e357, hx357_0⟩ := Kd.at_int HR353.out x24_1 p357 q357
               cases e357
               replace hx357_0 := (HB.out.cell (World.block_lt_of_cell? w _ hx357_0)).trans hx357_0
               replace p357 := eq_true p357
               replace q357 := eq_true q357
               have p358 : 0 ≤ ((ji16) : Int) := of_decide_eq_true (by first | (with_reducible assumption) | assumption)
               have q358 : (ji16) < (ys9.length : Int) := of_decide_eq_true (by first | (with_reducible assumption) | assumption)
               obtain ⟨ad358, e358, hx358_0⟩ := Kd.at_int HR353.out (ji16) p358 q358
               obtain rfl : ad357 = ad358 := (by injection e358)
               replace hx358_0 := (HB.out.cell (World.block_lt_of_cell? w _ hx358_0)).trans hx358_0
               replace p358 := eq_true p358
               replace q358 := eq_true q358
               have p22 : 0 ≤ (x24_1 : Int) := of_decide_eq_true (by first | (with_reducible assumption) | assumption)
               have q22 : (x24_1 : Int) < ((x5_1.length : Int) : Int) := of_decide_eq_true (by first | (with_reducible assumption) | assumption)
               obtain ⟨go22, co22, eo22, gb22, gl22, cl22, HG22⟩ := Kd.R_form HO_5.out (by omega)
               (first | cases eo22 | (injection eo22 with ea_ en_ ec_; (first | subst ea_ | (injection ea_ with ea_; subst ea_)); subst ec_; clear en_))
               have GB22 := As_.mk gb22
               have GG22 := As_.mk HG22
               clear gb22 gl22 HG22
               obtain ⟨hx22_0, hf22_0⟩ := Kd.R_celln 0 HO_5.out (x24_1 : Int) p22 q22
               replace p22 := eq_true p22
               replace q22 := eq_true q22
               have HP23 := Kd.R_putg HO_5.out (x24_1 : Int) ((ji20) % 4294967296)
               go_wp2_with (first | ((with_reducible refine gate_store (t := 202) (p := 52) rfl ?_); refine store_event (t := 202) (p := 52) (v := ?vo_w24) (w1 := (wr.setCell ⟨go22, (x24_1 : Int).toNat, none⟩ (.int .u32 ((ji20) % 4294967296)))) ?hg ?ho ?hn ?hr ?_; (case ho => rfl); (case hg => rfl); (case hn => rfl); (case hr => first | (go_simp; done) | (go_simp; rfl)); intro w24 hw; have hg : wr.grownBy w24 (some go22) := (by rw [hw]; exact HP23.2); have hp_ : Kd.R (Kd.int .u32) 202 w24 w.heap.size (fun k_ => (w.heap.size ≤ k_)) (.slice (some ⟨go22, 0, none⟩) x5_1.length co22) y359 := (by rw [hw, Ny359.out]; exact HP23.1); clear HP23; have n0_ := As_.mk (hp_); have n1_ := As_.mk ((by rw [hw]; exact bs_ (HB.out) GB22.out : Below w.heap.size w w24)); clear HO_5; clear HB; have HO_5 := n0_; have HB := n1_; clear n0_ n1_; clear hg hw hp_))
               go_roundg k1
               case measure => have := HK1.out; omega
               case rel => exact ⟨(y359), (ji16), (by first | rfl | (simp; done) | (simp only [← hji16] <;> (first | rfl | simp)) | (simp [*]; done)), H', ⟨by have := HK1.out; omega⟩, ⟨by (with_reducible repeat (first | apply Kd.R_alloc | apply Kd.R_drewN | apply Kd.R_drew)); exact HO_5.out⟩, ⟨by repeat (first | (with_reducible first | exact HB.out | apply ba_ | apply pN_ | apply bd_) | exact HB.out)⟩⟩
              ·rw [if_neg c21] at H
               exact absurd H (by simp)
             ·rw [if_neg c19] at H
              exact absurd H (by simp)
            ·rw [if_neg c17] at H
             exact absurd H (by simp)
           ·rw [if_neg c15] at H
            have c15b0 : decide ((wrap64 (x24_1 + 1)) < (ys9.length : Int)) = false := decide_eq_false c15
            clear c15
            obtain ⟨ji25, hji25⟩ : ∃ j_ : Int, (Int.tmod a1 32) = j_ := ⟨_, rfl⟩
            replace H : (if 0 ≤ (ji25) then (if x24_1 < (x5_1.length : Int) then (impl_magRight.l0 k1 ys9 a1 (x5_1.set (x24_1 : Int).toNat ((shr .u64 (IntKind.u64.wrap (rd ys9 x24_1)) (ji25)) % 4294967296)) ys9 (ys9.length : Int) (wrap64 (x24_1 + 1))) else (none)) else (none)) = some r := by first | (rw [hji25] at H; exact H) | (simp only [hji25] at H ⊢; exact H)
            by_cases c26 : 0 ≤ (ji25)
            ·rw [if_pos c26] at H
             have c26b0 := eq_true c26
             have c26b1 : decide (0 ≤ (ji25)) = true := decide_eq_true c26
             clear c26
             obtain ⟨ji27, hji27⟩ : ∃ j_ : Int, (shr .u64 (IntKind.u64.wrap (rd ys9 x24_1)) (ji25)) = j_ := ⟨_, rfl⟩
             replace H : (if x24_1 < (x5_1.length : Int) then (impl_magRight.l0 k1 ys9 a1 (x5_1.set (x24_1 : Int).toNat ((ji27) % 4294967296)) ys9 (ys9.length : Int) (wrap64 (x24_1 + 1))) else (none)) = some r := by first | (rw [hji27] at H; exact H) | (simp only [hji27] at H ⊢; exact H)
             have hji27_ : ((IntKind.u64.wrap (rd ys9 x24_1)) / 2 ^ min (ji25).toNat 64) = ji27 := hji27
             have hji27z : (ji25) ≤ 64 → ((IntKind.u64.wrap (rd ys9 x24_1)) / 2 ^ (ji25).toNat) = ji27 := shr_small hji27
             by_cases c28 : x24_1 < (x5_1.length : Int)
             ·rw [if_pos c28] at H
              have c28b0 : decide (x24_1 < (x5_1.length : Int)) = true := decide_eq_true c28
              clear c28
              obtain ⟨y360, hy360⟩ : ∃ y_ : List Int, y_ = (x5_1.set (x24_1 : Int).toNat ((ji27) % 4294967296)) := ⟨_, rfl⟩
              replace H : (impl_magRight.l0 k1 ys9 a1 y360 ys9 (ys9.length : Int) (wrap64 (x24_1 + 1))) = some r := by first | (rw [hy360]; with_reducible exact H) | (have H2_ := (Option.bind_some _ _).symm.trans H; rw [hy360]; with_reducible exact H2_) | (have H2_ := (Option.bind_some _ _).symm.trans H; with_reducible exact H2_) | with_reducible exact H | (rw [hy360]; exact H) | exact H
              have Ny360 := As_.mk hy360
              clear hy360
              have H' := As_.mk H
              clear H
              have p357 : 0 ≤ (x24_1 : Int) := of_decide_eq_true (by first | (with_reducible assumption) | assumption)
              have q357 : x24_1 < (ys9.length : Int) := of_decide_eq_true (by first | (with_reducible assumption) | assumption)
              obtain ⟨ad357, e357, hx357_0⟩ := Kd.at_int HR353.out x24_1 p357 q357
              cases e357
              replace hx357_0 := (HB.out.cell (World.block_lt_of_cell? w _ hx357_0)).trans hx357_0
              replace p357 := eq_true p357
              replace q357 := eq_true q357
              have p29 : 0 ≤ (x24_1 : Int) := of_decide_eq_true (by first | (with_reducible assumption) | assumption)
              have q29 : (x24_1 : Int) < ((x5_1.length : Int) : Int) := of_decide_eq_true (by first | (with_reducible assumption) | assumption)
              obtain ⟨go29, co29, eo29, gb29, gl29, cl29, HG29⟩ := Kd.R_form HO_5.out (by omega)
              (first | cases eo29 | (injection eo29 with ea_ en_ ec_; (first | subst ea_ | (injection ea_ with ea_; subst ea_)); subst ec_; clear en_))
              have GB29 := As_.mk gb29
              have GG29 := As_.mk HG29
              clear gb29 gl29 HG29
              obtain ⟨hx29_0, hf29_0⟩ := Kd.R_celln 0 HO_5.out (x24_1 : Int) p29 q29
              replace p29 := eq_true p29
              replace q29 := eq_true q29
              have HP30 := Kd.R_putg HO_5.out (x24_1 : Int) ((ji27) % 4294967296)
              go_wp2_with (first | ((with_reducible refine gate_store (t := 202) (p := 52) rfl ?_); refine store_event (t := 202) (p := 52) (v := ?vo_w31) (w1 := (wr.setCell ⟨go29, (x24_1 : Int).toNat, none⟩ (.int .u32 ((ji27) % 4294967296)))) ?hg ?ho ?hn ?hr ?_; (case ho => rfl); (case hg => rfl); (case hn => rfl); (case hr => first | (go_simp; done) | (go_simp; rfl)); intro w31 hw; have hg : wr.grownBy w31 (some go29) := (by rw [hw]; exact HP30.2); have hp_ : Kd.R (Kd.int .u32) 202 w31 w.heap.size (fun k_ => (w.heap.size ≤ k_)) (.slice (some ⟨go29, 0, none⟩) x5_1.length co29) y360 := (by rw [hw, Ny360.out]; exact HP30.1); clear HP30; have n0_ := As_.mk (hp_); have n1_ := As_.mk ((by rw [hw]; exact bs_ (HB.out) GB29.out : Below w.heap.size w w31)); clear HO_5; clear HB; have HO_5 := n0_; have HB := n1_; clear n0_ n1_; clear hg hw hp_))
              go_roundg k1
              case measure => have := HK1.out; omega
              case rel => exact ⟨(y360), (wrap64 (x24_1 + 1)), (by first | rfl | (simp; done) | (simp [*]; done)), H', ⟨by have := HK1.out; omega⟩, ⟨by (with_reducible repeat (first | apply Kd.R_alloc | apply Kd.R_drewN | apply Kd.R_drew)); exact HO_5.out⟩, ⟨by repeat (first | (with_reducible first | exact HB.out | apply ba_ | apply pN_ | apply bd_) | exact HB.out)⟩⟩
             ·rw [if_neg c28] at H
              exact absurd H (by simp)
            ·rw [if_neg c26] at H
             exact absurd H (by simp)
          ·rw [if_neg c14] at H
           exact absurd H (by simp)
         ·rw [if_neg c13] at H
          exact absurd H (by simp)
        ·rw [if_neg c12] at H
         have c12b0 : decide (x24_1 < (ys9.length : Int)) = false := decide_eq_false c12
         clear c12
         replace H := Option.bind_eq_some_iff.mp H
         obtain ⟨t361, A320, H⟩ := H
         replace H : (some t361) = some r := H
         have A32 := As_.mk A320
         clear A320
         obtain rfl := Option.some.inj H
         obtain ⟨Ao33, co33, eo33⟩ := Kd.R_slice HO_5.out
         subst eo33
         go_wp2_with (first | ((with_reducible refine gate_callee (f := 219) rfl ?_); refine goesL_ (some 55) rfl rfl Tryz.func219 (by kernel_rfl) rfl #[.slice Ao33 x5_1.length co33] rfl (by (try simp only [List.map_toArray, List.map_cons, List.map_nil]); first | done | rfl | (simp only [List.length_drop, List.length_take]; rfl)) ?_; (with_reducible refine (impl_magTrim.calls k1 (fun k_ => some k_ = (.slice Ao33 x5_1.length co33 : Value).ownBlock) _ _ x5_1 t361 _ ?side1 A32.out).mono ?_); (case side1 => exact Kd.R_V (Kd.R_tight rfl (HO_5.out))); rintro e w34 ⟨v362, rfl, ho0, hb⟩; refine ⟨_, rfl, ?_⟩; have n0_ := As_.mk (Kd.R_below (by (with_reducible repeat (first | apply Kd.R_alloc | apply Kd.R_drewN | apply Kd.R_drew)); exact HO_5.out) hb); have n1_ := As_.mk (Kd.V_lower (Kd.V_mono (ok' := fun k_ => (w.heap.size ≤ k_)) ho0 (fun k_ hk_ => Or.elim hk_ (fun hs_ => ((HO_5.out).1 k_ hs_.symm)) (fun hn_ => (Nat.le_trans (bz_ (by repeat (first | (with_reducible first | exact HB.out | apply ba_ | apply pN_ | apply bd_) | exact HB.out))) hn_)))) (bz_ (by repeat (first | (with_reducible first | exact HB.out | apply ba_ | apply pN_ | apply bd_) | exact HB.out)))); have n2_ := As_.mk (bp_ (by repeat (first | (with_reducible first | exact HB.out | apply ba_ | apply pN_ | apply bd_) | exact HB.out)) hb); clear HO_5; clear HB; have HO_5 := n0_; have HO363 := n1_; have HB := n2_; clear n0_ n1_ n2_; (try clear hb); (try clear hb2); (try clear hk); (try clear hi); (try clear ho0)))
         go_ret
         exact ⟨_, by first | rfl | (simp [eN_, eS_] <;> rfl) | (simp only [← hji4]; first | rfl | (simp [eN_, eS_] <;> rfl)) | (simp [*, eN_, eS_] <;> rfl), by (with_reducible repeat (first | apply Kd.V_alloc | apply Kd.V_drewN | apply Kd.V_drew)); exact HO363.out, by repeat (first | (with_reducible first | exact HB.out | apply ba_ | apply pN_ | apply bd_) | exact HB.out)⟩
     ·rw [if_neg c8] at H
      exact absurd H (by simp)
    ·rw [if_neg c7] at H
     exact absurd H (by simp)
   ·rw [if_neg c6] at H
    exact absurd H (by simp)
  ·rw [if_neg c5] at H
   exact absurd H (by simp)
def impl_magLeft.l0 : Nat → Int → List Int → List Int → Int → Int → Option (List Int)
 | 0, _, _, _, _, _ => none
 | k + 1, x1, x5, x20, x21, x22 => if x22 < x21 then (if 0 ≤ x22 then (if x22 < (x20.length : Int) then (if 0 ≤ (Int.tmod x1 32) then (if 0 ≤ (wrap64 ((wrap64 (IntKind.u64.wrap (Int.tdiv x1 32))) + x22)) then (if (wrap64 ((wrap64 (IntKind.u64.wrap (Int.tdiv x1 32))) + x22)) < (x5.length : Int) then (if 0 ≤ (wrap64 ((wrap64 ((wrap64 (IntKind.u64.wrap (Int.tdiv x1 32))) + x22)) + 1)) then (if (wrap64 ((wrap64 ((wrap64 (IntKind.u64.wrap (Int.tdiv x1 32))) + x22)) + 1)) < (x5.length : Int) then (impl_magLeft.l0 k x1 ((x5.set ((wrap64 ((wrap64 (IntKind.u64.wrap (Int.tdiv x1 32))) + x22)) : Int).toNat (Go.bits .or .u32 (rd x5 (wrap64 ((wrap64 (IntKind.u64.wrap (Int.tdiv x1 32))) + x22))) ((shl .u64 (IntKind.u64.wrap (rd x20 x22)) (Int.tmod x1 32)) % 4294967296))).set ((wrap64 ((wrap64 ((wrap64 (IntKind.u64.wrap (Int.tdiv x1 32))) + x22)) + 1)) : Int).toNat (((shl .u64 (IntKind.u64.wrap (rd x20 x22)) (Int.tmod x1 32)) / 4294967296) % 4294967296)) x20 x21 (wrap64 (x22 + 1))) else (none)) else (none)) else (none)) else (none)) else (none)) else (none)) else (none)) else ((impl_magTrim.f k x5).bind fun t434 => (some t434))
def impl_magLeft.f (k : Nat) (l0 : List Int) (a1 : Int) : Option (List Int) := if (l0.length : Int) = 0 then (some ([] : List Int)) else (if 0 ≤ (wrap64 ((wrap64 ((wrap64 (IntKind.u64.wrap (Int.tdiv a1 32))) + (l0.length : Int))) + 1)) then (if (wrap64 ((wrap64 ((wrap64 (IntKind.u64.wrap (Int.tdiv a1 32))) + (l0.length : Int))) + 1) : Int).toNat ≤ 70368744177664 then (impl_magLeft.l0 k a1 (List.replicate (wrap64 ((wrap64 ((wrap64 (IntKind.u64.wrap (Int.tdiv a1 32))) + (l0.length : Int))) + 1) : Int).toNat 0) l0 (l0.length : Int) 0) else (none)) else (none))
set_option maxHeartbeats 8000000 in
set_option maxRecDepth 100000 in
theorem impl_magLeft.calls (k : Nat) (A0 : Option Addr) (c0 : Nat) (l0 : List Int) (a1 : Int) (r : List Int) (w : World) (hr0 : Kd.C (Kd.int .u32) w A0 l0.length l0) (hc0 : l0.length ≤ c0) (h : impl_magLeft.f k l0 a1 = some r) :
  Calls Tryz.prog 267 #[.slice A0 l0.length c0, .int .u64 a1] w fun e w' => ∃ v0_ : Value, e = .returned (v0_) ∧ Kd.V (Kd.int .u32) 202 w' w.heap.size (fun k_ => (w.heap.size ≤ k_)) v0_ r ∧ Below w.heap.size w w' := by
 have HR0 := As_.mk hr0
 have HC0 := As_.mk hc0
 clear hr0 hc0
 have HB := As_.mk (Below.refl w.heap.size w)
 have H : (if (l0.length : Int) = 0 then (some ([] : List Int)) else (if 0 ≤ (wrap64 ((wrap64 ((wrap64 (IntKind.u64.wrap (Int.tdiv a1 32))) + (l0.length : Int))) + 1)) then (if (wrap64 ((wrap64 ((wrap64 (IntKind.u64.wrap (Int.tdiv a1 32))) + (l0.length : Int))) + 1) : Int).toNat ≤ 70368744177664 then (impl_magLeft.l0 k a1 (List.replicate (wrap64 ((wrap64 ((wrap64 (IntKind.u64.wrap (Int.tdiv a1 32))) + (l0.length : Int))) + 1) : Int).toNat 0) l0 (l0.length : Int) 0) else (none)) else (none))) = some r := h
 clear h
 by_cases c3 : (l0.length : Int) = 0
 ·rw [if_pos c3] at H
  have c3b0 : ((l0.length : Int) == 0) = true := beq_iff_eq.mpr c3
  have c3b1 : ((l0.length : Int) != 0) = false := bne_eq_false_iff_eq.mpr c3
  clear c3
  obtain rfl := Option.some.inj H
  go_enter Tryz.func267, Tryz.ntmps267
  go_wp2
  go_ret
  exact ⟨.slice none 0 0, by first | rfl | (simp [eN_, eS_] <;> rfl) | (simp [*, eN_, eS_] <;> rfl), Kd.V_nil _ _ _ _ _, by repeat (first | (with_reducible first | exact HB.out | apply ba_ | apply pN_ | apply bd_) | exact HB.out)⟩
 ·rw [if_neg c3] at H
  have c3b0 : ((l0.length : Int) == 0) = false := beq_eq_false_iff_ne.mpr c3
  have c3b1 : ((l0.length : Int) != 0) = true := bne_iff_ne.mpr c3
  have c3b2 : ¬ (l0 = []) := fun h_ => c3 (by rw [h_]; rfl)
  obtain ⟨ji4, hji4⟩ : ∃ j_ : Int, (wrap64 ((wrap64 ((wrap64 (IntKind.u64.wrap (Int.tdiv a1 32))) + (l0.length : Int))) + 1)) = j_ := ⟨_, rfl⟩
  replace H : (if 0 ≤ (ji4) then (if (ji4 : Int).toNat ≤ 70368744177664 then (impl_magLeft.l0 k a1 (List.replicate (ji4 : Int).toNat 0) l0 (l0.length : Int) 0) else (none)) else (none)) = some r := by first | (rw [hji4] at H; exact H) | (simp only [hji4] at H ⊢; exact H)
  have hji4w : (IntKind.i64.wrap ((wrap64 ((wrap64 (IntKind.u64.wrap (Int.tdiv a1 32))) + (l0.length : Int))) + 1)) = ji4 := (i64_w _).trans hji4
  by_cases c5 : 0 ≤ (ji4)
  ·rw [if_pos c5] at H
   have c5b0 := eq_true c5
   have c5b1 : decide (0 ≤ (ji4)) = true := decide_eq_true c5
   clear c5
   by_cases c6 : (ji4 : Int).toNat ≤ 70368744177664
   ·rw [if_pos c6] at H
    have c6b0 := eq_true c6
    have c6b1 : decide ((ji4 : Int).toNat ≤ 70368744177664) = true := decide_eq_true c6
    clear c6
    obtain ⟨y427, hy427⟩ : ∃ y_ : List Int, y_ = (List.replicate (ji4 : Int).toNat 0) := ⟨_, rfl⟩
    replace H : (impl_magLeft.l0 k a1 y427 l0 (l0.length : Int) 0) = some r := by first | (rw [hy427]; with_reducible exact H) | (have H2_ := (Option.bind_some _ _).symm.trans H; rw [hy427]; with_reducible exact H2_) | (have H2_ := (Option.bind_some _ _).symm.trans H; with_reducible exact H2_) | with_reducible exact H | (rw [hy427]; exact H) | exact H
    have Ny427 := As_.mk hy427
    clear hy427
    have H' := As_.mk H
    clear H
    go_enter Tryz.func267, Tryz.ntmps267
    go_wp2_with (first | ((with_reducible refine gate_dst (N := 19) rfl ?_); refine Kd.R_make (Kd.int .u32) _ 202 rfl (N := 19) rfl 156 _ _ rfl ji4 rfl rfl Tryz.underlying156 (.int .u32 0) 4 info202 rfl (by decide) (by omega) 0 (ok := fun _ => True) (okp := fun _ => True) rfl (fun _ hk => hk) trivial (of_decide_eq_true (by first | (with_reducible assumption) | assumption)) (Nat.le_trans (Nat.mul_le_mul_right _ (of_decide_eq_true (by first | (with_reducible assumption) | assumption) : ji4.toNat ≤ 70368744177664)) (by omega)) (Below.refl _ _) (Nat.le_refl _) ?_; intro v428 w7 ho8 hb hg_ hnew_; clear hg_ hnew_; (first | rw [← Ny427.out] at ho8 | (simp only [Int.reduceToNat] at ho8; rw [← Ny427.out] at ho8)); have n0_ := As_.mk (Kd.R_lower (Kd.R_newM (M := fun k_ => (w.heap.size ≤ k_)) ho8 (bz_ (by repeat (first | (with_reducible first | exact HB.out | apply ba_ | apply pN_ | apply bd_) | exact HB.out))) (fun k_ h_ => h_)) (bz_ (by repeat (first | (with_reducible first | exact HB.out | apply ba_ | apply pN_ | apply bd_) | exact HB.out)))); have n1_ := As_.mk (bp_ (by repeat (first | (with_reducible first | exact HB.out | apply ba_ | apply pN_ | apply bd_) | exact HB.out)) hb); clear HB; have HO429 := n0_; have HB := n1_; clear n0_ n1_; clear hb ho8))
    go_loopg [22] k (fun kq v22 w' => ∃ (x5_1 : List Int) (x22_1 : Int), v22 = .int .i64 x22_1 ∧ As_ (impl_magLeft.l0 kq a1 x5_1 l0 (l0.length : Int) x22_1 = some r) ∧ As_ (kq ≤ k) ∧ As_ (Kd.R (Kd.int .u32) 202 w' w.heap.size (fun k_ => (w.heap.size ≤ k_)) v428 x5_1) ∧ As_ (Below w.heap.size w w'))
    case atStart => exact ⟨(y427), (0), (by first | rfl | (simp; done) | (simp [*]; done)), H', ⟨Nat.le_refl _⟩, ⟨by (with_reducible repeat (first | apply Kd.R_alloc | apply Kd.R_drewN | apply Kd.R_drew)); exact Kd.R_mono HO429.out (fun _ hk => hk.1)⟩, ⟨by repeat (first | (with_reducible first | exact HB.out | apply ba_ | apply pN_ | apply bd_) | exact HB.out)⟩⟩
    case round =>
     clear H'
     try clear c2
     try clear p2
     try clear c3
     try clear c3b0
     try clear c3b1
     try clear c3b2
     try clear c5
     try clear c5b0
     try clear c5b1
     try clear c6
     try clear c6b0
     try clear c6b1
     try clear p6
     obtain ⟨x5_1, x22_1, rfl, HA, HK1, HO_5, HB⟩ := hrel
     cases gk with
     | zero => exact absurd HA.out (by simp [impl_magLeft.l0])
     | succ k1 =>
      have H := HA.out
      clear HA
      simp only [impl_magLeft.l0] at H
      by_cases c9 : x22_1 < (l0.length : Int)
      ·rw [if_pos c9] at H
       have c9b0 : decide (x22_1 < (l0.length : Int)) = true := decide_eq_true c9
       clear c9
       by_cases c10 : 0 ≤ x22_1
       ·rw [if_pos c10] at H
        have c10b0 : decide (0 ≤ x22_1) = true := decide_eq_true c10
        clear c10
        by_cases c11 : x22_1 < (l0.length : Int)
        ·rw [if_pos c11] at H
         have c11b0 : decide (x22_1 < (l0.length : Int)) = true := decide_eq_true c11
         clear c11
         obtain ⟨ji12, hji12⟩ : ∃ j_ : Int, (Int.tmod a1 32) = j_ := ⟨_, rfl⟩
         replace H : (if 0 ≤ (ji12) then (if 0 ≤ (wrap64 ((wrap64 (IntKind.u64.wrap (Int.tdiv a1 32))) + x22_1)) then (if (wrap64 ((wrap64 (IntKind.u64.wrap (Int.tdiv a1 32))) + x22_1)) < (x5_1.length : Int) then (if 0 ≤ (wrap64 ((wrap64 ((wrap64 (IntKind.u64.wrap (Int.tdiv a1 32))) + x22_1)) + 1)) then (if (wrap64 ((wrap64 ((wrap64 (IntKind.u64.wrap (Int.tdiv a1 32))) + x22_1)) + 1)) < (x5_1.length : Int) then (impl_magLeft.l0 k1 a1 ((x5_1.set ((wrap64 ((wrap64 (IntKind.u64.wrap (Int.tdiv a1 32))) + x22_1)) : Int).toNat (Go.bits .or .u32 (rd x5_1 (wrap64 ((wrap64 (IntKind.u64.wrap (Int.tdiv a1 32))) + x22_1))) ((shl .u64 (IntKind.u64.wrap (rd l0 x22_1)) (ji12)) % 4294967296))).set ((wrap64 ((wrap64 ((wrap64 (IntKind.u64.wrap (Int.tdiv a1 32))) + x22_1)) + 1)) : Int).toNat (((shl .u64 (IntKind.u64.wrap (rd l0 x22_1)) (ji12)) / 4294967296) % 4294967296)) l0 (l0.length : Int) (wrap64 (x22_1 + 1))) else (none)) else (none)) else (none)) else (none)) else (none)) = some r := by first | (rw [hji12] at H; exact H) | (simp only [hji12] at H ⊢; exact H)
         by_cases c13 : 0 ≤ (ji12)
         ·rw [if_pos c13] at H
          have c13b0 := eq_true c13
          have c13b1 : decide (0 ≤ (ji12)) = true := decide_eq_true c13
          clear c13
          obtain ⟨ji14, hji14⟩ : ∃ j_ : Int, (shl .u64 (IntKind.u64.wrap (rd l0 x22_1)) (ji12)) = j_ := ⟨_, rfl⟩
          replace H : (if 0 ≤ (wrap64 ((wrap64 (IntKind.u64.wrap (Int.tdiv a1 32))) + x22_1)) then (if (wrap64 ((wrap64 (IntKind.u64.wrap (Int.tdiv a1 32))) + x22_1)) < (x5_1.length : Int) then (if 0 ≤ (wrap64 ((wrap64 ((wrap64 (IntKind.u64.wrap (Int.tdiv a1 32))) + x22_1)) + 1)) then (if (wrap64 ((wrap64 ((wrap64 (IntKind.u64.wrap (Int.tdiv a1 32))) + x22_1)) + 1)) < (x5_1.length : Int) then (impl_magLeft.l0 k1 a1 ((x5_1.set ((wrap64 ((wrap64 (IntKind.u64.wrap (Int.tdiv a1 32))) + x22_1)) : Int).toNat (Go.bits .or .u32 (rd x5_1 (wrap64 ((wrap64 (IntKind.u64.wrap (Int.tdiv a1 32))) + x22_1))) ((ji14) % 4294967296))).set ((wrap64 ((wrap64 ((wrap64 (IntKind.u64.wrap (Int.tdiv a1 32))) + x22_1)) + 1)) : Int).toNat (((ji14) / 4294967296) % 4294967296)) l0 (l0.length : Int) (wrap64 (x22_1 + 1))) else (none)) else (none)) else (none)) else (none)) = some r := by first | (rw [hji14] at H; exact H) | (simp only [hji14] at H ⊢; exact H)
          have hji14_ : (IntKind.u64.wrap ((IntKind.u64.wrap (rd l0 x22_1)) * 2 ^ min (ji12).toNat 64)) = ji14 := hji14
          have hji14z : (ji12) ≤ 64 → (IntKind.u64.wrap ((IntKind.u64.wrap (rd l0 x22_1)) * 2 ^ (ji12).toNat)) = ji14 := shl_small hji14
          obtain ⟨ji15, hji15⟩ : ∃ j_ : Int, (wrap64 ((wrap64 (IntKind.u64.wrap (Int.tdiv a1 32))) + x22_1)) = j_ := ⟨_, rfl⟩
          replace H : (if 0 ≤ (ji15) then (if (ji15) < (x5_1.length : Int) then (if 0 ≤ (wrap64 ((ji15) + 1)) then (if (wrap64 ((ji15) + 1)) < (x5_1.length : Int) then (impl_magLeft.l0 k1 a1 ((x5_1.set ((ji15) : Int).toNat (Go.bits .or .u32 (rd x5_1 (ji15)) ((ji14) % 4294967296))).set ((wrap64 ((ji15) + 1)) : Int).toNat (((ji14) / 4294967296) % 4294967296)) l0 (l0.length : Int) (wrap64 (x22_1 + 1))) else (none)) else (none)) else (none)) else (none)) = some r := by first | (rw [hji15] at H; exact H) | (simp only [hji15] at H ⊢; exact H)
          have hji15w : (IntKind.i64.wrap ((wrap64 (IntKind.u64.wrap (Int.tdiv a1 32))) + x22_1)) = ji15 := (i64_w _).trans hji15
          by_cases c16 : 0 ≤ (ji15)
          ·rw [if_pos c16] at H
           have c16b0 : decide (0 ≤ (ji15)) = true := decide_eq_true c16
           clear c16
           by_cases c17 : (ji15) < (x5_1.length : Int)
           ·rw [if_pos c17] at H
            have c17b0 : decide ((ji15) < (x5_1.length : Int)) = true := decide_eq_true c17
            clear c17
            obtain ⟨y432, hy432⟩ : ∃ y_ : List Int, y_ = (x5_1.set ((ji15) : Int).toNat (Go.bits .or .u32 (rd x5_1 (ji15)) ((ji14) % 4294967296))) := ⟨_, rfl⟩
            replace H : (if 0 ≤ (wrap64 ((ji15) + 1)) then (if (wrap64 ((ji15) + 1)) < (x5_1.length : Int) then (impl_magLeft.l0 k1 a1 (y432.set ((wrap64 ((ji15) + 1)) : Int).toNat (((ji14) / 4294967296) % 4294967296)) l0 (l0.length : Int) (wrap64 (x22_1 + 1))) else (none)) else (none)) = some r := by first | (rw [hy432]; with_reducible exact H) | (have H2_ := (Option.bind_some _ _).symm.trans H; rw [hy432]; with_reducible exact H2_) | (have H2_ := (Option.bind_some _ _).symm.trans H; with_reducible exact H2_) | with_reducible exact H | (rw [hy432]; exact H) | exact H
            have Ny432 := As_.mk hy432
            clear hy432
            obtain ⟨ji19, hji19⟩ : ∃ j_ : Int, (wrap64 ((ji15) + 1)) = j_ := ⟨_, rfl⟩
            replace H : (if 0 ≤ (ji19) then (if (ji19) < (x5_1.length : Int) then (impl_magLeft.l0 k1 a1 (y432.set ((ji19) : Int).toNat (((ji14) / 4294967296) % 4294967296)) l0 (l0.length : Int) (wrap64 (x22_1 + 1))) else (none)) else (none)) = some r := by first | (rw [hji19] at H; exact H) | (simp only [hji19] at H ⊢; exact H)
            have hji19w : (IntKind.i64.wrap ((ji15) + 1)) = ji19 := (i64_w _).trans hji19
            by_cases c20 : 0 ≤ (ji19)
            ·rw [if_pos c20] at H
             have c20b0 : decide (0 ≤ (ji19)) = true := decide_eq_true c20
             clear c20
             by_cases c21 : (ji19) < (x5_1.length : Int)
             ·rw [if_pos c21] at H
              have c21b0 : decide ((ji19) < (x5_1.length : Int)) = true := decide_eq_true c21
              clear c21
              obtain ⟨y433, hy433⟩ : ∃ y_ : List Int, y_ = (y432.set ((ji19) : Int).toNat (((ji14) / 4294967296) % 4294967296)) := ⟨_, rfl⟩
              replace H : (impl_magLeft.l0 k1 a1 y433 l0 (l0.length : Int) (wrap64 (x22_1 + 1))) = some r := by first | (rw [hy433]; with_reducible exact H) | (have H2_ := (Option.bind_some _ _).symm.trans H; rw [hy433]; with_reducible exact H2_) | (have H2_ := (Option.bind_some _ _).symm.trans H; with_reducible exact H2_) | with_reducible exact H | (rw [hy433]; exact H) | exact H
              have Ny433 := As_.mk hy433
              clear hy433
              have H' := As_.mk H
              clear H
              have p430 : 0 ≤ (x22_1 : Int) := of_decide_eq_true (by first | (with_reducible assumption) | assumption)
              have q430 : x22_1 < (l0.length : Int) := of_decide_eq_true (by first | (with_reducible assumption) | assumption)
              obtain ⟨ad430, e430, hx430_0⟩ := Kd.at_int HR0.out x22_1 p430 q430
              cases e430
              replace hx430_0 := (HB.out.cell (World.block_lt_of_cell? w _ hx430_0)).trans hx430_0
              replace p430 := eq_true p430
              replace q430 := eq_true q430
              obtain ⟨Ao23, co23, eo23⟩ := Kd.R_slice HO_5.out
              subst eo23
              have p431 : 0 ≤ ((ji15) : Int) := of_decide_eq_true (by first | (with_reducible assumption) | assumption)
              have q431 : (ji15) < (x5_1.length : Int) := of_decide_eq_true (by first | (with_reducible assumption) | assumption)
              obtain ⟨ad431, e431, hx431_0⟩ := Kd.at_int (Kd.R_reads' HO_5.out).2.2 (ji15) p431 q431
              cases e431
              replace p431 := eq_true p431
              replace q431 := eq_true q431
              have p18 : 0 ≤ ((ji15) : Int) := of_decide_eq_true (by first | (with_reducible assumption) | assumption)
              have q18 : ((ji15) : Int) < ((x5_1.length : Int) : Int) := of_decide_eq_true (by first | (with_reducible assumption) | assumption)
              obtain ⟨go18, co18, eo18, gb18, gl18, cl18, HG18⟩ := Kd.R_form HO_5.out (by omega)
              (first | cases eo18 | (injection eo18 with ea_ en_ ec_; (first | subst ea_ | (injection ea_ with ea_; subst ea_)); subst ec_; clear en_))
              have GB18 := As_.mk gb18
              have GG18 := As_.mk HG18
              clear gb18 gl18 HG18
              (first | simp only [add_plain] at hx431_0 | skip)
              obtain ⟨hx18_0, hf18_0⟩ := Kd.R_celln 0 HO_5.out ((ji15) : Int) p18 q18
              replace p18 := eq_true p18
              replace q18 := eq_true q18
              have HP24 := Kd.R_putg HO_5.out ((ji15) : Int) (Go.bits .or .u32 (rd x5_1 (ji15)) ((ji14) % 4294967296))
              go_wp2_with (first | ((with_reducible refine gate_store (t := 202) (p := 43) rfl ?_); refine store_event (t := 202) (p := 43) (v := ?vo_w25) (w1 := (wr.setCell ⟨go18, ((ji15) : Int).toNat, none⟩ (.int .u32 (Go.bits .or .u32 (rd x5_1 (ji15)) ((ji14) % 4294967296))))) ?hg ?ho ?hn ?hr ?_; (case ho => rfl); (case hg => rfl); (case hn => rfl); (case hr => first | (go_simp; done) | (go_simp; rfl)); intro w25 hw; have hg : wr.grownBy w25 (some go18) := (by rw [hw]; exact HP24.2); have hp_ : Kd.R (Kd.int .u32) 202 w25 w.heap.size (fun k_ => (w.heap.size ≤ k_)) (.slice (some ⟨go18, 0, none⟩) x5_1.length co23) y432 := (by rw [hw, Ny432.out]; exact HP24.1); clear HP24; have n0_ := As_.mk (hp_); have n1_ := As_.mk ((by rw [hw]; exact bs_ (HB.out) GB18.out : Below w.heap.size w w25)); clear HO_5; clear HB; have HO_5 := n0_; have HB := n1_; clear n0_ n1_; clear hg hw hp_; have p22 : 0 ≤ ((ji19) : Int) := of_decide_eq_true (by first | (with_reducible assumption) | assumption); have q22 : ((ji19) : Int) < ((x5_1.length : Int) : Int) := of_decide_eq_true (by first | (with_reducible assumption) | assumption); obtain ⟨hx22_0, hf22_0⟩ := Kd.R_celln 0 HO_5.out ((ji19) : Int) p22 q22; replace p22 := eq_true p22; replace q22 := eq_true q22; obtain ⟨hy26_, hz26_⟩ := Kd.R_celln 0 HO_5.out ((ji19) : Int) (of_decide_eq_true (by first | (with_reducible assumption) | assumption)) (of_decide_eq_true (by first | (with_reducible assumption) | assumption)); have HP26 := Kd.R_putg HO_5.out ((ji19) : Int) (((ji14) / 4294967296) % 4294967296)) | ((with_reducible refine gate_store (t := 202) (p := 54) rfl ?_); refine store_event (t := 202) (p := 54) (v := ?vo_w27) (w1 := (w25.setCell ⟨go18, ((ji19) : Int).toNat, none⟩ (.int .u32 (((ji14) / 4294967296) % 4294967296)))) ?hg ?ho ?hn ?hr ?_; (case ho => rfl); (case hg => rfl); (case hn => rfl); (case hr => first | (go_simp; done) | (go_simp; rfl)); intro w27 hw; have hg : w25.grownBy w27 (some go18) := (by rw [hw]; exact HP26.2); have hp_ : Kd.R (Kd.int .u32) 202 w27 w.heap.size (fun k_ => (w.heap.size ≤ k_)) (.slice (some ⟨go18, 0, none⟩) x5_1.length co23) y433 := (by rw [hw, Ny433.out]; exact HP26.1); clear HP26; have n0_ := As_.mk (hp_); have n1_ := As_.mk ((by rw [hw]; exact bs_ (HB.out) GB18.out : Below w.heap.size w w27)); clear HO_5; clear HB; have HO_5 := n0_; have HB := n1_; clear n0_ n1_; clear hg hw hp_))
              go_roundg k1
              case measure => have := HK1.out; omega
              case rel => exact ⟨(y433), (wrap64 (x22_1 + 1)), (by first | rfl | (simp; done) | (simp [*]; done)), H', ⟨by have := HK1.out; omega⟩, ⟨by (with_reducible repeat (first | apply Kd.R_alloc | apply Kd.R_drewN | apply Kd.R_drew)); exact HO_5.out⟩, ⟨by repeat (first | (with_reducible first | exact HB.out | apply ba_ | apply pN_ | apply bd_) | exact HB.out)⟩⟩
             ·rw [if_neg c21] at H
              exact absurd H (by simp)
            ·rw [if_neg c20] at H
             exact absurd H (by simp)
           ·rw [if_neg c17] at H
            exact absurd H (by simp)
          ·rw [if_neg c16] at H
           exact absurd H (by simp)
         ·rw [if_neg c13] at H
          exact absurd H (by simp)
        ·rw [if_neg c11] at H
         exact absurd H (by simp)
       ·rw [if_neg c10] at H
        exact absurd H (by simp)
      ·rw [if_neg c9] at H
       have c9b0 : decide (x22_1 < (l0.length : Int)) = false := decide_eq_false c9
       clear c9
       replace H := Option.bind_eq_some_iff.mp H
       obtain ⟨t434, A280, H⟩ := H
       replace H : (some t434) = some r := H
       have A28 := As_.mk A280
       clear A280
       obtain rfl := Option.some.inj H
       obtain ⟨Ao29, co29, eo29⟩ := Kd.R_slice HO_5.out
       subst eo29
       go_wp2_with (first | ((with_reducible refine gate_callee (f := 219) rfl ?_); refine goesL_ (some 57) rfl rfl Tryz.func219 (by kernel_rfl) rfl #[.slice Ao29 x5_1.length co29] rfl (by (try simp only [List.map_toArray, List.map_cons, List.map_nil]); first | done | rfl | (simp only [List.length_drop, List.length_take]; rfl)) ?_; (with_reducible refine (impl_magTrim.calls k1 (fun k_ => some k_ = (.slice Ao29 x5_1.length co29 : Value).ownBlock) _ _ x5_1 t434 _ ?side1 A28.out).mono ?_); (case side1 => exact Kd.R_V (Kd.R_tight rfl (HO_5.out))); rintro e w30 ⟨v435, rfl, ho0, hb⟩; refine ⟨_, rfl, ?_⟩; have n0_ := As_.mk (Kd.R_below (by (with_reducible repeat (first | apply Kd.R_alloc | apply Kd.R_drewN | apply Kd.R_drew)); exact HO_5.out) hb); have n1_ := As_.mk (Kd.V_lower (Kd.V_mono (ok' := fun k_ => (w.heap.size ≤ k_)) ho0 (fun k_ hk_ => Or.elim hk_ (fun hs_ => ((HO_5.out).1 k_ hs_.symm)) (fun hn_ => (Nat.le_trans (bz_ (by repeat (first | (with_reducible first | exact HB.out | apply ba_ | apply pN_ | apply bd_) | exact HB.out))) hn_)))) (bz_ (by repeat (first | (with_reducible first | exact HB.out | apply ba_ | apply pN_ | apply bd_) | exact HB.out)))); have n2_ := As_.mk (bp_ (by repeat (first | (with_reducible first | exact HB.out | apply ba_ | apply pN_ | apply bd_) | exact HB.out)) hb); clear HO_5; clear HB; have HO_5 := n0_; have HO436 := n1_; have HB := n2_; clear n0_ n1_ n2_; (try clear hb); (try clear hb2); (try clear hk); (try clear hi); (try clear ho0)))
       go_ret
       exact ⟨_, by first | rfl | (simp [eN_, eS_] <;> rfl) | (simp only [← hji4]; first | rfl | (simp [eN_, eS_] <;> rfl)) | (simp [*, eN_, eS_] <;> rfl), by (with_reducible repeat (first | apply Kd.V_alloc | apply Kd.V_drewN | apply Kd.V_drew)); exact HO436.out, by repeat (first | (with_reducible first | exact HB.out | apply ba_ | apply pN_ | apply bd_) | exact HB.out)⟩
   ·rw [if_neg c6] at H
    exact absurd H (by simp)
  ·rw [if_neg c5] at H
   exact absurd H (by simp)
end Go.Proofs.YtlogcnglmdpejaaGreatDoor.Pq
end
section
namespace Go.Proofs.YtlogcnglmdpejaaGreatDoor.Hd
open Go.RowKit Go.Proofs.YtlogcnglmdpejaaGreatDoorW.PrintWords Go.Proofs.YtlogcnglmdpejaaGreatDoorW.PrintMore Go.Proofs.YtlogcnglmdpejaaGreatDoor.Pq
set_option linter.unusedVariables false
set_option linter.unusedSimpArgs false
theorem or_add {a s c : Nat} (h : a < 2 ^ s) : a ||| 2 ^ s * c = a + 2 ^ s * c := by
  rw [Nat.or_comm, Nat.add_comm, Nat.two_pow_add_eq_or_of_lt h]
theorem u32_or_add (a s c : Nat) (ha : a < 2 ^ s) (h : a + 2 ^ s * c < 4294967296) : Go.bits .or .u32 (a : Int) ((2 ^ s * c : Nat) : Int) = ((a + 2 ^ s * c : Nat) : Int) := by
  rw [u32_or_nat a (2 ^ s * c) (by omega) (by omega), or_add ha]
theorem u64_or_add (a s c : Nat) (ha : a < 2 ^ s) (h : a + 2 ^ s * c < 18446744073709551616) : Go.bits .or .u64 (a : Int) ((2 ^ s * c : Nat) : Int) = ((a + 2 ^ s * c : Nat) : Int) := by
  rw [u64_or_nat a (2 ^ s * c) (by omega) (by omega), or_add ha]
theorem shl_eq {d s : Nat} (hs : s < 32) (hd : d < 4294967296) : shl .u64 (d : Int) (s : Int) = ((2 ^ s * d : Nat) : Int) := by
  unfold shl
  have hb : (IntKind.u64).bits = 64 := rfl
  rw [hb, Int.toNat_natCast, Nat.min_eq_left (by omega)]
  have h1 : 2 ^ s * d < 2 ^ 64 := by
    have h2 : 2 ^ s ≤ 2 ^ 31 := Nat.pow_le_pow_right (by omega) (by omega)
    calc 2 ^ s * d ≤ 2 ^ 31 * d := Nat.mul_le_mul_right _ h2
      _ < 2 ^ 64 := by omega
  have e : (d : Int) * 2 ^ s = ((2 ^ s * d : Nat) : Int) := by
    rw [Nat.mul_comm, Int.natCast_mul, Int.natCast_pow]
    rfl
  rw [e]
  generalize 2 ^ s * d = t at h1 ⊢
  exact u64w (by omega) (by omega)
theorem shr_eq (u s : Nat) (hs : s ≤ 64) : shr .u64 (u : Int) (s : Int) = ((u / 2 ^ s : Nat) : Int) := by
  unfold shr
  have hb : (IntKind.u64).bits = 64 := rfl
  rw [hb, Int.toNat_natCast, Nat.min_eq_left hs, Int.natCast_ediv, Int.natCast_pow]
  rfl
theorem leftDig {d s h : Nat} (hs : s < 32) (hd : d < 4294967296) (hh : h < 2 ^ s) :
    ∃ v c : Nat, Go.bits .or .u32 (h : Int) (shl .u64 (d : Int) (s : Int) % 4294967296) = (v : Int) ∧ shl .u64 (d : Int) (s : Int) / 4294967296 % 4294967296 = (c : Int) ∧ v < 4294967296 ∧ c < 2 ^ s ∧ h + 2 ^ s * d = v + 4294967296 * c := by
  rw [shl_eq hs hd]
  have hp : 4294967296 = 2 ^ s * 2 ^ (32 - s) := by rw [← Nat.pow_add, show s + (32 - s) = 32 by omega]
  have h31 : 2 ^ s ≤ 2 ^ 31 := Nat.pow_le_pow_right (by omega) (by omega)
  have e1 : ((2 ^ s * d : Nat) : Int) % 4294967296 = ((2 ^ s * (d % 2 ^ (32 - s)) : Nat) : Int) := by
    rw [show (4294967296 : Int) = ((2 ^ s * 2 ^ (32 - s) : Nat) : Int) by rw [← hp]; rfl, ← Int.natCast_emod, Nat.mul_mod_mul_left]
  have e2 : ((2 ^ s * d : Nat) : Int) / 4294967296 = ((d / 2 ^ (32 - s) : Nat) : Int) := by
    rw [show (4294967296 : Int) = ((2 ^ s * 2 ^ (32 - s) : Nat) : Int) by rw [← hp]; rfl, ← Int.natCast_ediv, Nat.mul_div_mul_left _ _ (Nat.two_pow_pos s)]
  have hc : d / 2 ^ (32 - s) < 2 ^ s := by
    rw [Nat.div_lt_iff_lt_mul (Nat.two_pow_pos _), ← hp]
    exact hd
  have hlow : h + 2 ^ s * (d % 2 ^ (32 - s)) < 4294967296 := by
    have h1 : d % 2 ^ (32 - s) + 1 ≤ 2 ^ (32 - s) := Nat.mod_lt _ (Nat.two_pow_pos _)
    have h2 := Nat.mul_le_mul_left (2 ^ s) h1
    rw [← hp, Nat.mul_add, Nat.mul_one] at h2
    omega
  refine ⟨h + 2 ^ s * (d % 2 ^ (32 - s)), d / 2 ^ (32 - s), ?_, ?_, hlow, hc, ?_⟩
  · rw [e1, u32_or_add h s _ hh hlow]
  · rw [e2]
    generalize d / 2 ^ (32 - s) = t at hc ⊢
    omega
  · rw [Nat.add_assoc]
    congr 1
    conv => rhs; rw [hp]
    rw [Nat.mul_assoc, ← Nat.mul_add]
    congr 1
    exact (Nat.mod_add_div d (2 ^ (32 - s))).symm
theorem u64_div32 (a1 : Nat) (h : a1 ≤ 1000000) : wrap64 (IntKind.u64.wrap (Int.tdiv (a1 : Int) 32)) = ((a1 / 32 : Nat) : Int) := by
  rw [Int.tdiv_eq_ediv_of_nonneg (by omega), show (a1 : Int) / 32 = ((a1 / 32 : Nat) : Int) by simp, u64w (by omega) (by omega), w64 (by omega) (by omega)]
theorem u64_div32' (a1 : Nat) (h : a1 ≤ 1000000) : IntKind.u64.wrap (Int.tdiv (a1 : Int) 32) = ((a1 / 32 : Nat) : Int) := by
  rw [Int.tdiv_eq_ediv_of_nonneg (by omega), show (a1 : Int) / 32 = ((a1 / 32 : Nat) : Int) by simp, u64w (by omega) (by omega)]
theorem tmod32 (a1 : Nat) : Int.tmod (a1 : Int) 32 = ((a1 % 32 : Nat) : Int) := by
  rw [Int.tmod_eq_emod_of_nonneg (by omega)]
  simp
theorem magLeft_l0 (m : Nat) : ∀ (k a1 i : Nat) (a x : List Int), a.length - i = m → i ≤ a.length → x.length = a1 / 32 + a.length + 1 → a1 ≤ 1000000 → a.length ≤ 100000 → 2000000 ≤ k → Dg 4294967296 a → Dg 4294967296 x →
    x.getD (a1 / 32 + i) 0 < 2 ^ (a1 % 32) → Zr x (a1 / 32 + i + 1) →
    impl_magLeft.l0 (k + m) (a1 : Int) x a (a.length : Int) (i : Int) = some (D (vl 4294967296 x + (4294967296 : Int) ^ (a1 / 32 + i) * (2 ^ (a1 % 32) * vl 4294967296 (a.drop i))).toNat) := by
  induction m with
  | zero =>
    intro k a1 i a x hm hi hx ha1 hal hk ha hxd hh hz
    obtain rfl : i = a.length := by omega
    obtain ⟨k, rfl⟩ : ∃ m, k = m + 1 := ⟨k - 1, by omega⟩
    rw [Nat.add_zero, impl_magLeft.l0, if_neg (by omega), magTrim_f (by omega) (by omega) hxd]
    simp only [Option.bind_some]
    rw [List.drop_of_length_le (Nat.le_refl _), vl_nil]
    simp
  | succ m ih =>
    intro k a1 i a x hm hi hx ha1 hal hk ha hxd hh hz
    have hlt : i < a.length := by omega
    obtain ⟨q, hq⟩ : ∃ q, k + m = q := ⟨_, rfl⟩
    rw [show k + (m + 1) = q + 1 by omega, impl_magLeft.l0, if_pos (by omega), if_pos (by omega), if_pos (by omega), tmod32, if_pos (by omega), u64_div32 a1 ha1, w64a _ i (by omega) (by omega), if_pos (by omega), if_pos (by omega), w64s _ (by omega), if_pos (by omega), if_pos (by omega), w64s i (by omega), rd_getD, rd_getD, Int.toNat_natCast, Int.toNat_natCast]
    obtain ⟨ha0, ha1'⟩ := ha.getD (by omega) i
    obtain ⟨hx0, hx1⟩ := hxd.getD (by omega) (a1 / 32 + i)
    obtain ⟨d, hd⟩ := Int.eq_ofNat_of_zero_le ha0
    obtain ⟨h, hh'⟩ := Int.eq_ofNat_of_zero_le hx0
    rw [u64w (by omega) (by omega), hd, hh']
    have hsm : a1 % 32 < 32 := Nat.mod_lt _ (by omega)
    have hhs : h < 2 ^ (a1 % 32) := by
      rw [hh'] at hh
      have : ((2 ^ (a1 % 32) : Nat) : Int) = (2 : Int) ^ (a1 % 32) := by rw [Int.natCast_pow]; rfl
      rw [← this] at hh
      exact Int.ofNat_lt.1 hh
    obtain ⟨v, c, e1, e2, hv, hc, hs⟩ := leftDig (d := d) (s := a1 % 32) (h := h) hsm (by omega) hhs
    rw [e1, e2, ← hq]
    have h31 : 2 ^ (a1 % 32) ≤ 2 ^ 31 := Nat.pow_le_pow_right (by omega) (by omega)
    have hc32 : c < 4294967296 := Nat.lt_of_lt_of_le hc (Nat.le_trans h31 (by omega))
    have hlen1 : a1 / 32 + i < x.length := by omega
    have hlen2 : a1 / 32 + i + 1 < x.length := by omega
    have hHS := As_.mk hs
    clear hs hh hhs e1 e2 h31 hc32
    rw [ih k a1 (i + 1) a _ (by omega) (by omega) (by simpa using hx) ha1 hal hk ha ((hxd.set _ (by omega) (by omega)).set _ (by omega) (by clear hHS; have := Nat.pow_le_pow_right (show 0 < 2 by omega) (show a1 % 32 ≤ 31 by omega); omega)) ?_ ?_]
    · congr 3
      rw [vl_set _ _ _ _ (by simpa using hlen2), vl_set _ _ _ _ hlen1, drop_getD a i hlt, vl_cons, hd, hh', getD_set, if_neg (by omega), hz _ (Nat.le_refl _)]
      rw [show a1 / 32 + (i + 1) = a1 / 32 + i + 1 by omega, Int.pow_succ]
      have hs := hHS.out
      have hsI : (h : Int) + 2 ^ (a1 % 32) * (d : Int) = (v : Int) + 4294967296 * (c : Int) := by
        have : ((h + 2 ^ (a1 % 32) * d : Nat) : Int) = ((v + 4294967296 * c : Nat) : Int) := by rw [hs]
        simpa using this
      generalize (4294967296 : Int) ^ (a1 / 32 + i) = p
      generalize vl 4294967296 (a.drop (i + 1)) = r
      generalize (2 : Int) ^ (a1 % 32) = t at hsI ⊢
      have e3 : t * ((d : Int) + 4294967296 * r) = (v : Int) - h + 4294967296 * (c + t * r) := by
        rw [Int.mul_add, Int.mul_left_comm]
        generalize t * (d : Int) = y at hsI ⊢
        generalize t * r = z
        omega
      rw [e3, Int.mul_add p, ← Int.mul_assoc p 4294967296, Int.mul_add (p * 4294967296), Int.sub_zero]
      simp only [Int.add_assoc]
    · rw [show a1 / 32 + (i + 1) = a1 / 32 + i + 1 by omega, getD_set, if_pos ⟨rfl, by simpa using hlen2⟩]
      have : ((2 ^ (a1 % 32) : Nat) : Int) = (2 : Int) ^ (a1 % 32) := by rw [Int.natCast_pow]; rfl
      rw [← this]
      exact Int.ofNat_lt.2 hc
    · rw [show a1 / 32 + (i + 1) + 1 = (a1 / 32 + i + 1) + 1 by omega]
      exact (hz.set (by omega) _).set' _
theorem pow_split (a1 : Nat) : (2 : Int) ^ a1 = (4294967296 : Int) ^ (a1 / 32) * 2 ^ (a1 % 32) := by
  have h : (4294967296 : Int) = 2 ^ 32 := rfl
  rw [h, ← Int.pow_mul, ← Int.pow_add, Nat.div_add_mod]
theorem magLeft_f {k m a1 : Nat} (hm : (D m).length ≤ 1000) (ha1 : a1 ≤ 100000) (hk : 4000000 ≤ k) : impl_magLeft.f k (D m) (a1 : Int) = some (D (m * 2 ^ a1)) := by
  unfold impl_magLeft.f
  by_cases h0 : (D m).length = 0
  · have : m = 0 := D_len0.1 h0
    subst this
    rw [if_pos (by omega), Nat.zero_mul, D_zero]
  · rw [if_neg (by omega), u64_div32 a1 (by omega), w64a _ _ (by omega) (by omega), w64s _ (by omega), if_pos (by omega), Int.toNat_natCast, if_pos (by omega)]
    have h := magLeft_l0 (D m).length (k - (D m).length) a1 0 (D m) (List.replicate (a1 / 32 + (D m).length + 1) 0) (by omega) (by omega) (by simp) (by omega) (by omega) (by omega) (D_dg m) (Dg.replicate (by omega) _)
      (by rw [List.getD_eq_getElem?_getD, List.getElem?_replicate]; have := Int.pow_pos (n := 2) (m := a1 % 32) (by omega); split <;> simpa using this)
      (by intro j _; rw [List.getD_eq_getElem?_getD, List.getElem?_replicate]; split <;> rfl)
    rw [show k - (D m).length + (D m).length = k by omega, show ((0 : Nat) : Int) = 0 from rfl] at h
    rw [h, vl_replicate, List.drop_zero, D_vl, Nat.add_zero, Int.zero_add, ← Int.mul_assoc, ← pow_split]
    congr 2
    rw [Int.mul_comm]
    have : (m : Int) * 2 ^ a1 = ((m * 2 ^ a1 : Nat) : Int) := by rw [Int.natCast_mul, Int.natCast_pow]; rfl
    rw [this, Int.toNat_natCast]
end Go.Proofs.YtlogcnglmdpejaaGreatDoor.Hd
end
