/- Part 18 of the proof of the card of FnExactV: walks of the functions and plain facts on them. -/
import Derived.Test.YtlogcnglmdpejaaGreatDoorMV17
import Derived.Test.YtlogcnglmdpejaaGreatDoorMV16
section
namespace Go.Proofs.YtlogcnglmdpejaaGreatDoor.Hd
set_option exponentiation.threshold 3000
open Go.RowKit Go.Proofs.YtlogcnglmdpejaaGreatDoorW.PrintWords Go.Proofs.YtlogcnglmdpejaaGreatDoorW.PrintLast Go.Proofs.YtlogcnglmdpejaaGreatDoorW.PrintMore Go.Proofs.YtlogcnglmdpejaaGreatDoor.Pq
attribute [local go_sem] max2_int min2_int max_two min_two max_three min_three max_four min_four
set_option linter.unusedVariables false
set_option linter.unusedSimpArgs false
structure Rd0 (w0 : World) (N gp : Nat) (z e : Int) (w : World) : Prop where
  num : w.heap[N]? = some (.cells #[.pointer (some ⟨gp, 0, none⟩), .int .i64 e] 103 (0, 0))
  mode : w.heap[N + 1]? = some (.cells #[.int .i64 0] 2 (0, 0))
  big : Big w gp z
  below : Below w0.heap.size w0 w
  old : gp < w0.heap.size ∧ w0.heap.size = N
theorem Rd0.keep {w0 w w' : World} {N gp : Nat} {z e : Int} (h : Rd0 w0 N gp z e w) (hb : Below w.heap.size w w') : Rd0 w0 N gp z e w' :=
  ⟨(hb.block N (heap_lt h.num)).trans h.num, (hb.block (N + 1) (heap_lt h.mode)).trans h.mode, h.big.below hb, h.below.trans (hb.mono h.below.size), h.old⟩
theorem Rd0.cells {w0 w : World} {N gp : Nat} {z e : Int} (h : Rd0 w0 N gp z e w) : w.cell? ⟨N, 0, none⟩ = some (.pointer (some ⟨gp, 0, none⟩)) ∧ w.cell? ⟨N, 1, none⟩ = some (.int .i64 e) := ⟨kc_ h.num 0, kc_ h.num 1⟩
theorem Rd0.new {w0 w : World} {N gp : Nat} {z e : Int} (h : Rd0 w0 N gp z e w) (sgn : Int) : RdS w0 N w.heap.size gp z e sgn (w.alloc (.cells #[.int .i64 sgn] 3)) := by
  have hb : Below w.heap.size w (w.alloc (.cells #[.int .i64 sgn] 3)) := ba_ (Below.refl _ _) _
  have h2 := h.keep hb
  exact ⟨h2.num, h2.mode, heap_alloc_new w _, h2.big, h2.below, h2.old.1, h2.old.2, heap_lt h.mode⟩
theorem Rd0.set {w0 w : World} {N gp g6 : Nat} {z e : Int} (h : Rd0 w0 N gp z e w) (hg : w.heap[g6]? = some (.cells #[.int .i64 0] 3 (0, 0))) (hN : N + 1 < g6) (sgn : Int) : RdS w0 N g6 gp z e sgn (w.setCell ⟨g6, 0, none⟩ (.int .i64 sgn)) := by
  have hgr : w.grownBy (w.setCell ⟨g6, 0, none⟩ (.int .i64 sgn)) (some g6) := grown_set (grown_below (Below.refl _ _) g6) _ _
  obtain ⟨P, hP, hPu⟩ := Bigf.of_big' h.big
  have hne : ∀ k, P k → some k ≠ some g6 := by
    intro k hk he
    injection he with he
    subst he
    obtain ⟨ad, x, e1, e2⟩ := hPu _ hk
    unfold World.cell? at e2
    rw [← e1, hg] at e2
    simp only at e2
    split at e2
    · cases e2
    · rcases ho : ad.off with _ | k
      · rw [ho] at e2; simp at e2
      · rw [ho] at e2; simp at e2
  have hlt := h.old.1
  refine ⟨(hgr.block N (heap_lt h.num) (by simp; omega)).trans h.num, (hgr.block (N + 1) (heap_lt h.mode) (by simp; omega)).trans h.mode, (blk_set hg 0 _).trans rfl, (hP.grown hgr hne (by simp; have := h.old.2; omega)).big, bs_ h.below (by have := h.old.2; omega), h.old.1, h.old.2, hN⟩
theorem unary_negf (k : FloatKind) (b : Nat) : Op.unary .neg (.float k b) = pure (.float k (Op.negFloat k b)) := rfl
attribute [local go_sem] unary_negf
def swd (M : Nat) (q : Int) : Nat := if M = 0 then 0 else if M = 16777216 then sword 1 (q + 24) else sword M q
theorem swd_mid {M : Nat} {q : Int} (h0 : 0 < M) (h1 : M < 16777216) : swd M q = sword M q := by
  unfold swd
  rw [if_neg (by omega), if_neg (by omega)]
theorem bits_log {M : Nat} (h : 0 < M) : bits M = M.log2 + 1 := by
  unfold bits
  rw [if_neg (by omega)]
theorem ld_any {M : Nat} {q : Int} (hM : M ≤ 16777216) (hq : -149 ≤ q) (hq1 : q ≤ 104) (hb : (bits M : Int) + q ≤ 128) :
    ∃ a b, Go.floatOfInt .f64 (M : Int) = a ∧ (∀ w, Calls Tryz.prog 265 #[.float .f64 a, .int .i64 q] w fun e w' => e = .returned (.float .f64 b) ∧ w = w') ∧ (∀ w, Calls Tryz.prog 210 #[.float .f64 a, .int .i64 q] w fun e w' => e = .returned (.float .f64 b) ∧ w = w') ∧ Go.floatToFloatBits .f64 b .f32 = some (swd M q) ∧ swd M q < 2139095040 := by
  rcases Nat.eq_zero_or_pos M with rfl | h0
  · refine ⟨0, 0, rfl, fun w => Ldexp_zero, fun w => Twos_zero (by omega) (by omega), ?_, ?_⟩
    · exact narrow_zero
    · exact (by decide : 0 < 2139095040)
  · have hbl := bits_log h0
    rcases Nat.lt_or_ge M 16777216 with h1 | h1
    · refine ⟨dword M 0, dword M q, int_double h0 (by omega), fun w => by have := Ldexp_dword (w := w) (q := q) (q0 := 0) (by omega) h0 h1 (by omega) (by omega); rwa [Int.zero_add] at this, fun w => by have := Twos_calls (w := w) (q := q) (q0 := 0) (by omega) h0 h1 (by omega) (by omega); rwa [Int.zero_add] at this, ?_, ?_⟩
      · rw [swd_mid h0 h1]
        exact narrow_dword h0 h1 hq (by omega)
      · rw [swd_mid h0 h1]
        exact sword_lt h0 h1 hq (by omega)
    · have hM2 : M = 16777216 := by omega
      subst hM2
      have hb25 : bits 16777216 = 25 := by rw [hbl]; decide
      have e0 : dword 16777216 0 = dword 1 (0 + 24) := dword_top 0
      have hl1 : Nat.log2 1 = 0 := by decide
      have hs : swd 16777216 q = sword 1 (q + 24) := rfl
      refine ⟨dword 1 24, dword 1 (q + 24), ?_, fun w => ?_, fun w => ?_, ?_, ?_⟩
      · rw [int_double (by decide) (by decide)]
        exact e0
      · rw [Int.add_comm]; exact Ldexp_dword (by omega) (by decide) (by decide) (by omega) (by omega)
      · rw [Int.add_comm]; exact Twos_calls (by omega) (by decide) (by decide) (by omega) (by omega)
      · rw [hs]
        exact narrow_dword (by decide) (by decide) (by omega) (by rw [hl1]; omega)
      · rw [hs]
        exact sword_lt (by decide) (by decide) (by omega) (by rw [hl1]; omega)
theorem big_new1 {w w' : World} {o : Obj} {z : Int} (h : Big w' (w.alloc o).heap.size z) : Big w' (w.heap.size + 1) z := by simpa using h
theorem D_one_abs : D (Int.natAbs 1) = [1] := D_one (by decide) (by decide)
theorem RR_over {z e : Int} {x : Nat} {fl : Int} (hz : z ≠ 0) (h : 128 < (bits (rm z.natAbs e) : Int) + rq z.natAbs e) (hf : fl ≠ 0) : RR z e x fl := by
  unfold RR
  rw [if_neg hz, if_pos h]
  exact hf
theorem RR_near {z e : Int} {x : Nat} {fl : Int} (hz : z ≠ 0) (h : ¬ rq z.natAbs e ≤ e) (hf : fl ≠ 0) : RR z e x fl := by
  unfold RR
  rw [if_neg hz]
  split
  · exact hf
  · exact hf
theorem RR_exact {z e : Int} {x : Nat} {fl : Int} (hz : z ≠ 0) (h : ¬ 128 < (bits (rm z.natAbs e) : Int) + rq z.natAbs e) (h2 : rq z.natAbs e ≤ e) (hx : x = fz z e) (hf : fl = 0) : RR z e x fl := by
  unfold RR
  rw [if_neg hz, if_neg h, if_pos h2]
  exact ⟨hx, hf⟩
set_option maxHeartbeats 8000000 in
set_option maxRecDepth 100000 in
theorem round_some {w : World} {g : Nat} {z e : Int} (h : Big w g z) (hz : z ≠ 0) (hod : z.natAbs % 2 = 1) (hl : bits z.natAbs ≤ 2400) (he : -3000 ≤ e) (he2 : e ≤ 3000) :
    Calls Tryz.prog 227 #[.agg #[.pointer (some ⟨g, 0, none⟩), .int .i64 e], .int .i64 0] w (RPost z e w) := by
  obtain ⟨sgn, hsgn⟩ : ∃ s, cm z 0 = s := ⟨_, rfl⟩
  have hs0 : (sgn == 0) = false := by
    rw [← hsgn, beq_eq_false_iff_ne]
    unfold cm
    split
    · decide
    · split
      · decide
      · omega
  obtain ⟨ln, hln⟩ : ∃ n : Int, (bits z.natAbs : Int) = n := ⟨_, rfl⟩
  have hln0 : 0 ≤ ln := by omega
  have hln1 : ln ≤ 2400 := by omega
  have HS := As_.mk hsgn
  have HLN := As_.mk hln
  have H := As_.mk h
  have HDS : As_ ((D z.natAbs).length ≤ 1000) := ⟨by
    refine D_le (Nat.lt_of_lt_of_le (lt_bits _) ?_)
    refine Nat.le_trans (Nat.pow_le_pow_right (by decide) hl) (Nat.le_trans (m := 4294967296 ^ 75) ?_ (Nat.pow_le_pow_right (n := 4294967296) (by decide) (show 75 ≤ 1000 by omega)))
    rw [show (4294967296 : Nat) = 2 ^ 32 by decide, ← Nat.pow_mul]
    exact Nat.pow_le_pow_right (n := 2) (by decide) (by decide)⟩
  have HDL := As_.mk (Nat.le_trans HDS.out (show 1000 ≤ 100000 by decide))
  have HOD := As_.mk hod
  clear h hsgn hln hl hod
  go_enter Tryz.func227, Tryz.ntmps227
  go_wp2_with fail
  refine (sign_calls ((H.out.below (ba_ (Below.refl _ _) _)).below (ba_ (Below.refl _ _) _))).mono ?_
  rintro e1 w1 ⟨rfl, hb⟩
  rw [HS.out]
  have hn := (hb.block w.heap.size (by simp; omega)).trans ((Below.heap_alloc _ _ _ (by simp)).trans (heap_alloc_new w _))
  have hm := (hb.block (w.heap.size + 1) (by simp)).trans (show ((w.alloc (.cells #[.pointer (some ⟨g, 0, none⟩), .int .i64 e] 103)).alloc (.cells #[.int .i64 0] 2)).heap[w.heap.size + 1]? = some (.cells #[.int .i64 0] 2 (0, 0)) by
    have := heap_alloc_new (w.alloc (.cells #[.pointer (some ⟨g, 0, none⟩), .int .i64 e] 103)) (.cells #[.int .i64 0] 2)
    simpa using this)
  have hbw : Below w.heap.size w w1 := ((ba_ (Below.refl w.heap.size w) _).alloc (by simp) _).trans (hb.mono (by simp; omega))
  have HN := As_.mk hn
  have HM := As_.mk hm
  have HBW := As_.mk hbw
  have k0 := kc_ hn 0
  have k1 := kc_ hn 1
  simp only [List.getElem?_toArray, List.getElem?_cons_zero, List.getElem?_cons_succ] at k0 k1
  have HB1 := As_.mk hb
  clear hb hn hm hbw
  obtain ⟨N, hN⟩ : ∃ N, w.heap.size = N := ⟨_, rfl⟩
  have HNN := As_.mk hN
  rw [hN] at HN HM k0 k1 ⊢
  clear hN
  have HR1 := As_.mk (show Rd0 w N g z e w1 from ⟨HN.out, HM.out, (H.out.below (ba_ (Below.refl _ _) _)).below (ba_ (Below.refl _ _) _) |>.below HB1.out, HBW.out, H.out.lt, HNN.out⟩)
  have HN1 := As_.mk (heap_lt HM.out)
  obtain ⟨k0a, k1a⟩ := (HR1.out.keep (ba_ (Below.refl _ _) (.cells #[.int .i64 0] 3))).cells
  go_upto_region 3 with fail
  go_cut [6, 7] (fun s6 s7 wx => ∃ g6 : Nat, s6 = .pointer (some ⟨g6, 0, none⟩) ∧ s7 = .int .i64 ln ∧ As_ (RdS w N g6 g z e sgn wx))
  case first =>
    go_region_with (first
      | (go_at_call 122; refine (sign_calls (w := w1.drew) HR1.out.big).mono ?_; rintro e2 w2 ⟨rfl, hb⟩; rw [HS.out]; have hr := HR1.out.keep (below_undrew hb); have q0 := hr.cells.1; have q1 := hr.cells.2; have q0a := (hr.keep (ba_ (Below.refl _ _) (.cells #[.int .i64 0] 3))).cells.1; have HR2 := As_.mk hr; have HN2 := As_.mk (Nat.lt_of_lt_of_le HN1.out hb.size); clear hb hr)
      | (go_at_call 122; refine (sign_calls (w := (w1.alloc (.cells #[.int .i64 0] 3)).drew) (HR1.out.keep (ba_ (Below.refl _ _) _)).big).mono ?_; rintro e2 w2 ⟨rfl, hb⟩; rw [HS.out]; have hr := (HR1.out.keep (ba_ (Below.refl _ _) _)).keep (below_undrew hb); have q0 := hr.cells.1; have q1 := hr.cells.2; have HR2 := As_.mk hr; have h6 := ((below_undrew hb).block w1.heap.size (by simp)).trans (heap_alloc_new w1 _); have c6 := kc_ h6 0; have f6 := blk_free h6 0; simp only [List.getElem?_toArray, List.getElem?_cons_zero, List.getElem?_cons_succ] at c6; have H6 := As_.mk h6; clear hb hr h6)
      | (go_at_call 174; refine (BitLen_calls (w := w2) HR2.out.big HDL.out).mono ?_; rintro e2 w3 ⟨rfl, hb⟩; rw [HLN.out]; have HR3 := As_.mk (HR2.out.keep hb); (first | (have h6 := (hb.block w1.heap.size (heap_lt H6.out)).trans H6.out; have c6 := kc_ h6 0; have f6 := blk_free h6 0; simp only [List.getElem?_toArray, List.getElem?_cons_zero, List.getElem?_cons_succ] at c6; have H63 := As_.mk h6; clear h6) | skip); clear hb)
      | (go_at_call 174; refine (BitLen_calls (w := w2.alloc (.cells #[.int .i64 0] 3)) (HR2.out.keep (ba_ (Below.refl _ _) _)).big HDL.out).mono ?_; rintro e2 w3 ⟨rfl, hb⟩; rw [HLN.out]; have HR3 := As_.mk ((HR2.out.keep (ba_ (Below.refl _ _) _)).keep hb); have h6 := (hb.block w2.heap.size (by simp)).trans (heap_alloc_new w2 _); have c6 := kc_ h6 0; have f6 := blk_free h6 0; simp only [List.getElem?_toArray, List.getElem?_cons_zero, List.getElem?_cons_succ] at c6; have H63 := As_.mk h6; clear hb h6))
    all_goals
      go_wp2_with fail
      go_meet
      first
        | exact ⟨_, rfl, rfl, ⟨HR3.out.new sgn⟩⟩
        | exact ⟨_, rfl, rfl, ⟨HR3.out.set H63.out HN1.out sgn⟩⟩
        | exact ⟨_, rfl, rfl, ⟨HR3.out.set H63.out HN2.out sgn⟩⟩
        | trace_state
  case rest =>
    obtain ⟨g6, rfl, rfl, HRS⟩ := hcut
    have n0 := kc_ HRS.out.num 0
    have n1 := kc_ HRS.out.num 1
    have m0 := kc_ HRS.out.mode 0
    have s0 := kc_ HRS.out.sgn 0
    simp only [List.getElem?_toArray, List.getElem?_cons_zero, List.getElem?_cons_succ] at n0 n1 m0 s0
    by_cases hov : 128 < ln + e
    · have HOV := As_.mk (rm_over (n := z.natAbs) (e := e) (by omega) (by rw [HLN.out]; exact hov))
      go_wp2_with fail
      refine (over_calls m0 s0).mono ?_
      rintro e2 w2 ⟨⟨x, rfl⟩, rfl⟩
      go_wp2_with fail
      go_ret2
      exact ⟨x, 5, rfl, RR_over hz HOV.out (by decide), HRS.out.below⟩
    · obtain ⟨q, hq⟩ : ∃ q, rq z.natAbs e = q := ⟨_, rfl⟩
      have hqm : (if ln + e - 24 < -149 then -149 else ln + e - 24) = q := by
        rw [← hq, ← HLN.out]
        unfold rq
        split <;> omega
      have hq0 : -149 ≤ q := by rw [← hqm]; split <;> omega
      have hq1 : q ≤ 104 := by rw [← hqm]; split <;> omega
      have HQ := As_.mk hq
      have HQM := As_.mk hqm
      clear hq hqm
      have hHA := HRS.out.keep (ba_ (Below.refl _ _) (.cells #[.bool false, .slice none 0 0] 158))
      have HHA := As_.mk hHA
      have n0a := kc_ hHA.num 0
      simp only [List.getElem?_toArray, List.getElem?_cons_zero, List.getElem?_cons_succ] at n0a
      clear hHA
      go_upto_region 8 with fail
      rw [HQM.out]
      clear HQM
      go_wp2_with fail
      refine (Abs_calls (new_ic wc) HHA.out.big HDL.out).mono ?_
      rintro e2 w2 ⟨rfl, hbig, hg⟩
      have hr2 := HHA.out.grown (new_ic wc) HRS.out.below.size hg
      have HR2 := As_.mk hr2
      have HBM := As_.mk hbig
      have HGM := As_.mk (show wc.heap.size < w2.heap.size from Nat.lt_of_lt_of_le (by simp) hg.size)
      have HB02 := As_.mk HRS.out.below.size
      clear hbig hg hr2 n0 n1 m0 s0 n0a HHA HRS
      obtain ⟨gm, hgm⟩ : ∃ gm, wc.heap.size = gm := ⟨_, rfl⟩
      rw [hgm] at HBM HGM HB02 ⊢
      clear hgm
      have hHA := HR2.out.keep (ba_ (Below.refl _ _) (.cells #[.bool false, .slice none 0 0] 158))
      have HHA := As_.mk hHA
      have n0a := kc_ hHA.num 0
      have n1a := kc_ hHA.num 1
      simp only [List.getElem?_toArray, List.getElem?_cons_zero, List.getElem?_cons_succ] at n0a n1a
      clear hHA
      obtain ⟨n, hn⟩ : ∃ n, z.natAbs = n := ⟨_, rfl⟩
      have HNA := As_.mk hn
      rw [hn] at HBM
      clear hn
      have HGT : As_ (gm ≠ w2.heap.size ∧ w.heap.size ≤ w2.heap.size) := ⟨by have := HGM.out; omega, by have := HGM.out; have := HB02.out; omega⟩
      have HIT := As_.mk (new_ic w2)
      have HBMa := As_.mk (HBM.out.below (ba_ (Below.refl _ _) (.cells #[.bool false, .slice none 0 0] 158)))
      clear HBM HGM HB02 HR2
      go_upto_region 11 with fail
      generalize (w2.alloc (.cells #[.bool false, .slice none 0 0] 158)) = wa at HHA HIT HBMa n0a n1a ⊢
      generalize w2.heap.size = gt at HGT HIT ⊢
      have HDN := As_.mk (show (D n).length ≤ 1000 by rw [← HNA.out]; exact HDS.out)
      have HNP := As_.mk (show 0 < n by rw [← HNA.out]; omega)
      have HQ2 := As_.mk (show rq n e = q by rw [← HNA.out]; exact HQ.out)
      go_upto_if 50 with fail
      go_cut [11] (fun s11 wx => ∃ fl : Int, s11 = .int .i64 fl ∧ As_ ((q ≤ e ∧ fl = 0) ∨ (¬ q ≤ e ∧ fl ≠ 0)) ∧ As_ (RdS w N g6 g z e sgn wx) ∧ As_ (Big wx gt (rm n e : Nat)))
      case first =>
        by_cases hqe : q ≤ e
        · obtain ⟨s, hs⟩ : ∃ s : Nat, e - q = s := ⟨(e - q).toNat, by omega⟩
          have HSS := As_.mk hs
          clear hs
          go_wp2_with fail
          rw [HSS.out]
          refine (Lsh_calls (n := s) HIT.out HBMa.out (by rw [Int.natAbs_natCast]; exact HDN.out) (by have := HSS.out; omega)).mono ?_
          rintro e2 w3 ⟨rfl, hbig, hg⟩
          have HB3 := As_.mk hbig
          have HR3 := As_.mk (HHA.out.grown HIT.out HGT.out.2 hg)
          clear hbig hg
          go_wp2_with fail
          go_meet
          refine ⟨0, rfl, ⟨.inl ⟨hqe, rfl⟩⟩, HR3, ⟨?_⟩⟩
          have hrm := rm_exact (n := n) (e := e) (by rw [HQ2.out]; exact hqe)
          rw [HQ2.out, HSS.out, Int.toNat_natCast] at hrm
          rw [hrm, Int.natCast_mul, Int.natCast_pow]
          exact HB3.out
        · obtain ⟨k, hk⟩ : ∃ k : Nat, q - e = k := ⟨(q - e).toNat, by omega⟩
          have HK := As_.mk (show q - e = (k : Int) ∧ 0 < k ∧ k ≤ 4000 from ⟨hk, by omega, by omega⟩)
          have hkp : (1 : Int) ≤ (k : Int) := by omega
          have hkm : (k : Int) ≤ 4000 := by omega
          clear hk
          go_wp2_with fail
          rw [HK.out.1]
          refine (Rsh_calls (s := k) HIT.out HBMa.out (Nat.le_trans HDN.out (by decide)) (by have := HK.out; omega)).mono ?_
          rintro e2 w3 ⟨rfl, hbig, hg⟩
          have HB3 := As_.mk hbig
          have HR3 := As_.mk (HHA.out.grown HIT.out HGT.out.2 hg)
          have HM3 := As_.mk (HBMa.out.grown HIT.out HGT.out.1 hg)
          clear hbig hg
          obtain ⟨hodd⟩ := HOD
          rw [HNA.out] at hodd
          have HRP := As_.mk (odd_rest (n := n) (k := k) hodd HK.out.2.1)
          clear hodd
          go_upto_region 16 with fail
          have hWb : Below w3.heap.size w3 ((w3.alloc (.cells #[.bool false, .slice none 0 0] 158)).alloc (.cells #[.bool false, .slice none 0 0] 158)) := (ba_ (Below.refl _ _) _).alloc (by simp) _
          have HRb := As_.mk (HR3.out.keep hWb)
          have HMb := As_.mk (HM3.out.below hWb)
          have HTb := As_.mk (HB3.out.below hWb)
          have HI68 : As_ (Ic ((w3.alloc (.cells #[.bool false, .slice none 0 0] 158)).alloc (.cells #[.bool false, .slice none 0 0] 158)) w3.heap.size) := ⟨(new_ic w3).below (ba_ (Below.refl _ _) _)⟩
          have HI70 : As_ (Ic ((w3.alloc (.cells #[.bool false, .slice none 0 0] 158)).alloc (.cells #[.bool false, .slice none 0 0] 158)) (w3.heap.size + 1)) := ⟨by have := new_ic (w3.alloc (.cells #[.bool false, .slice none 0 0] 158)); simpa using this⟩
          have HLT : As_ (w3.heap.size ≠ w3.heap.size + 1 ∧ gm < w3.heap.size ∧ gt < w3.heap.size ∧ w.heap.size ≤ w3.heap.size ∧ w3.heap.size ≤ w3.heap.size + 1) := ⟨by have h1 := HM3.out.lt; have h2 := HB3.out.lt; have := HGT.out.2; omega⟩
          clear hWb HB3 HR3 HM3
          generalize ((w3.alloc (.cells #[.bool false, .slice none 0 0] 158)).alloc (.cells #[.bool false, .slice none 0 0] 158)) = wb at HRb HMb HTb HI68 HI70 ⊢
          generalize w3.heap.size + 1 = g70 at HI70 HLT ⊢
          generalize w3.heap.size = g68 at HI68 HLT ⊢
          have HDT := As_.mk (show (D (n / 2 ^ k)).length ≤ 1000 from Nat.le_trans (D_mono (Nat.div_le_self _ _)) HDN.out)
          refine (Lsh_calls (n := k) HI70.out HTb.out (by rw [Int.natAbs_natCast]; exact HDT.out) (by have := HK.out; omega)).mono ?_
          rintro e2 w4 ⟨rfl, hbig, hg⟩
          have HB4 := As_.mk (show Big w4 g70 ((n / 2 ^ k * 2 ^ k : Nat) : Int) by rw [Int.natCast_mul, Int.natCast_pow]; exact hbig)
          have HR4 := As_.mk (HRb.out.grown HI70.out (by have := HLT.out; omega) hg)
          have HM4 := As_.mk (HMb.out.grown HI70.out (by have := HLT.out; omega) hg)
          have HT4 := As_.mk (HTb.out.grown HI70.out (by have := HLT.out; omega) hg)
          have HI4 := As_.mk (HI68.out.grown (by have := HLT.out; omega) hg)
          have HDU := As_.mk (show (D (n / 2 ^ k * 2 ^ k)).length ≤ 1000 from Nat.le_trans (D_mono (Nat.div_mul_le_self _ _)) HDN.out)
          clear hbig hg HRb HMb HTb HI68 HI70
          go_upto_region 16 with fail
          refine (Sub_calls HI4.out HM4.out HB4.out (by rw [Int.natAbs_natCast]; exact Nat.le_trans HDN.out (by decide)) (by rw [Int.natAbs_natCast]; exact Nat.le_trans HDU.out (by decide))).mono ?_
          rintro e2 w5 ⟨rfl, hbig, hg⟩
          have HB5 := As_.mk (show Big w5 g68 ((n % 2 ^ k : Nat) : Int) by
            have h1 : ((n : Nat) : Int) - ((n / 2 ^ k * 2 ^ k : Nat) : Int) = ((n % 2 ^ k : Nat) : Int) := by
              have := Nat.div_add_mod n (2 ^ k)
              rw [Nat.mul_comm] at this
              omega
            rw [← h1]; exact hbig)
          have HR5 := As_.mk (HR4.out.grown HI4.out (by have := HLT.out; omega) hg)
          have HT5 := As_.mk (HT4.out.grown HI4.out (by have := HLT.out; omega) hg)
          clear hbig hg HR4 HT4 HM4 HB4 HI4
          obtain ⟨r, hr⟩ : ∃ r, n % 2 ^ k = r := ⟨_, rfl⟩
          obtain ⟨tq, htq⟩ : ∃ tq, n / 2 ^ k = tq := ⟨_, rfl⟩
          have HRM : As_ (rm n e = tq + rup n k) := ⟨by
            have h1 := rm_near (n := n) (e := e) (by rw [HQ2.out]; omega)
            rw [HQ2.out, HK.out.1, Int.toNat_natCast, htq] at h1
            exact h1⟩
          have HRU : As_ (rup n k = if 2 ^ (k - 1) < r ∨ (r = 2 ^ (k - 1) ∧ tq % 2 = 1) then 1 else 0) := ⟨by rw [← hr, ← htq]; rfl⟩
          rw [hr] at HB5 HRP
          rw [htq] at HT5 HDT
          have HRD := As_.mk (show (D r).length ≤ 1000 by rw [← hr]; exact Nat.le_trans (D_mono (Nat.mod_le _ _)) HDN.out)
          have HCM := As_.mk (show cm ((r : Nat) : Int) 0 = 1 from cm_gt (by have := HRP.out; omega))
          clear hr htq
          have e0 := kc_ HR5.out.num 0
          have e1 := kc_ HR5.out.num 1
          simp only [List.getElem?_toArray, List.getElem?_cons_zero, List.getElem?_cons_succ] at e0 e1
          clear n0a n1a
          go_upto_region 17 with fail
          refine (Sign_calls HB5.out).mono ?_
          rintro e2 w6 ⟨rfl, rfl⟩
          rw [HCM.out]
          by_cases htn : ln + e ≤ -126
          all_goals
            go_wp2_with fail
            have hba : Below w5.heap.size w5 (w5.alloc (.cells #[.bool false, .slice none 0 0] 158)) := ba_ (Below.refl _ _) _
            refine (newInt_calls (w := w5.alloc (.cells #[.bool false, .slice none 0 0] 158)) 1 (by decide) (by decide)).mono ?_
            rintro e2 w7 ⟨rfl, hbig, hb⟩
            have hb7 : Below w5.heap.size w5 w7 := hba.trans (hb.mono (by simp))
            have HR7 := As_.mk (HR5.out.keep hb7)
            have HT7 := As_.mk (HT5.out.below hb7)
            have HB7 := As_.mk (HB5.out.below hb7)
            have HI7 := As_.mk ((new_ic w5).below hb)
            have HO7 := As_.mk (big_new1 hbig)
            have HLT7 : As_ (g68 < w5.heap.size ∧ gt < w5.heap.size ∧ w.heap.size ≤ w5.heap.size) := ⟨HB5.out.lt, HT5.out.lt, by have := HT5.out.lt; have := HGT.out.2; omega⟩
            obtain ⟨j, hj⟩ : ∃ j : Nat, (k : Int) - 1 = j := ⟨(k - 1 : Nat), by omega⟩
            have HJ := As_.mk hj
            have HJK : As_ (k - 1 = j ∧ j ≤ 4000) := ⟨by omega⟩
            clear hba hbig hb hb7 hj HR5 HT5 HB5
            go_wp2_with fail
            rw [HJ.out]
            refine (Lsh_calls (n := j) HI7.out HO7.out (by rw [D_one_abs]; decide) (by have := HJK.out; omega)).mono ?_
            rintro e2 w8 ⟨rfl, hbig, hg⟩
            have HR8 := As_.mk (HR7.out.grown HI7.out (by have := HLT7.out; omega) hg)
            have HT8 := As_.mk (HT7.out.grown HI7.out (by have := HLT7.out; omega) hg)
            have HB8 := As_.mk (HB7.out.grown HI7.out (by have := HLT7.out; omega) hg)
            obtain ⟨p, hp⟩ : ∃ p, 2 ^ j = p := ⟨_, rfl⟩
            have HP8 := As_.mk (show Big w8 w5.heap.size ((p : Nat) : Int) by
              have e : (1 : Int) * 2 ^ j = ((p : Nat) : Int) := by rw [← hp, Int.natCast_pow]; simp
              rw [← e]; exact hbig)
            have HPD := As_.mk (show (D p).length ≤ 100000 from Nat.le_trans (by rw [← hp]; have := mul_len (n := 1) (k := j) (by rw [D_one (by decide) (by decide)]; decide) (by have := HJK.out; omega); rwa [Nat.one_mul] at this) (by decide))
            have HRU2 : As_ (rup n k = if p < r ∨ (r = p ∧ tq % 2 = 1) then 1 else 0) := ⟨by rw [HRU.out, HJK.out.1, hp]⟩
            clear hbig hg hp HR7 HT7 HB7
            go_wp2_with fail
            refine (Cmp_calls HB8.out HP8.out (Nat.le_trans HRD.out (by decide)) HPD.out).mono ?_
            rintro e2 w9 ⟨rfl, hb⟩
            have hr9 := HR8.out.keep hb
            have m0 := kc_ hr9.mode 0
            simp only [List.getElem?_toArray, List.getElem?_cons_zero, List.getElem?_cons_succ] at m0
            have HR9 := As_.mk hr9
            have HT9 := As_.mk (HT8.out.below hb)
            clear hb hr9 HR8 HT8 HB8 e0 e1
            rcases Nat.lt_trichotomy r p with hrp | hrp | hrp
            · have HC : As_ (cm ((r : Nat) : Int) ((p : Nat) : Int) = -1) := ⟨cm_lt (by omega)⟩
              have HM2 : As_ (rm n e = tq) := ⟨by rw [HRM.out, HRU2.out, if_neg (by omega)]; rfl⟩
              clear hrp
              rw [HC.out]
              go_upto_region 33 with fail
              go_wp2_with fail
              go_meet
              exact ⟨_, rfl, ⟨.inr ⟨by omega, by decide⟩⟩, HR9, ⟨by rw [HM2.out]; exact HT9.out⟩⟩
            · have HC : As_ (cm ((r : Nat) : Int) ((p : Nat) : Int) = 0) := ⟨by rw [hrp]; exact cm_self _⟩
              rcases Nat.mod_two_eq_zero_or_one tq with h2 | h2
              · have HM2 : As_ (rm n e = tq) := ⟨by rw [HRM.out, HRU2.out, if_neg (by omega)]; rfl⟩
                have HBO : As_ (((bitOf tq 0 : Nat) : Int) = 0) := ⟨by unfold bitOf; rw [Nat.pow_zero, Nat.div_one, h2]; rfl⟩
                clear hrp h2
                rw [HC.out]
                go_wp2_with fail
                refine (Bit_calls (i := 0) HT9.out (by decide)).mono ?_
                rintro e2 w10 ⟨rfl, rfl⟩
                rw [HBO.out]
                go_wp2_with fail
                go_meet
                exact ⟨_, rfl, ⟨.inr ⟨by omega, by decide⟩⟩, HR9, ⟨by rw [HM2.out]; exact HT9.out⟩⟩
              · have HM2 : As_ (rm n e = tq + 1) := ⟨by rw [HRM.out, HRU2.out, if_pos (by omega)]⟩
                have HBO : As_ (((bitOf tq 0 : Nat) : Int) = 1) := ⟨by unfold bitOf; rw [Nat.pow_zero, Nat.div_one, h2]; rfl⟩
                clear hrp h2
                rw [HC.out]
                go_wp2_with fail
                refine (Bit_calls (i := 0) HT9.out (by decide)).mono ?_
                rintro e2 w10 ⟨rfl, rfl⟩
                rw [HBO.out]
                go_wp2_with fail
                refine (newInt_calls 1 (by decide) (by decide)).mono ?_
                rintro e2 w10 ⟨rfl, hbig, hb⟩
                have HR10 := As_.mk (HR9.out.keep hb)
                have HT10 := As_.mk (HT9.out.below hb)
                have HO10 := As_.mk hbig
                clear hbig hb HR9 HT9
                go_wp2_with fail
                refine (Add_calls HT10.out.ic HT10.out HO10.out (by rw [Int.natAbs_natCast]; exact Nat.le_trans HDT.out (by decide)) (by rw [D_one_abs]; decide)).mono ?_
                rintro e2 w11 ⟨rfl, hbig, hg⟩
                have HR11 := As_.mk (HR10.out.grown HT10.out.ic HGT.out.2 hg)
                have HT11 := As_.mk (show Big w11 gt ((tq + 1 : Nat) : Int) from hbig)
                clear hbig hg
                go_wp2_with fail
                go_meet
                exact ⟨_, rfl, ⟨.inr ⟨by omega, by decide⟩⟩, HR11, ⟨by rw [HM2.out]; exact HT11.out⟩⟩
            · have HC : As_ (cm ((r : Nat) : Int) ((p : Nat) : Int) = 1) := ⟨cm_gt (by omega)⟩
              have HM2 : As_ (rm n e = tq + 1) := ⟨by rw [HRM.out, HRU2.out, if_pos (by omega)]⟩
              clear hrp
              rw [HC.out]
              go_wp2_with fail
              refine (newInt_calls 1 (by decide) (by decide)).mono ?_
              rintro e2 w10 ⟨rfl, hbig, hb⟩
              have HR10 := As_.mk (HR9.out.keep hb)
              have HT10 := As_.mk (HT9.out.below hb)
              have HO10 := As_.mk hbig
              clear hbig hb HR9 HT9
              go_wp2_with fail
              refine (Add_calls HT10.out.ic HT10.out HO10.out (by rw [Int.natAbs_natCast]; exact Nat.le_trans HDT.out (by decide)) (by rw [D_one_abs]; decide)).mono ?_
              rintro e2 w11 ⟨rfl, hbig, hg⟩
              have HR11 := As_.mk (HR10.out.grown HT10.out.ic HGT.out.2 hg)
              have HT11 := As_.mk (show Big w11 gt ((tq + 1 : Nat) : Int) from hbig)
              clear hbig hg
              go_wp2_with fail
              go_meet
              exact ⟨_, rfl, ⟨.inr ⟨by omega, by decide⟩⟩, HR11, ⟨by rw [HM2.out]; exact HT11.out⟩⟩
      case rest =>
        obtain ⟨fl, rfl, HFL, HR5, HB5⟩ := hcut
        obtain ⟨M, hM⟩ : ∃ M, rm n e = M := ⟨_, rfl⟩
        rw [hM] at HB5
        have HMM := As_.mk hM
        have hMle : M ≤ 16777216 := by rw [← hM]; exact rm_le HNP.out
        have HMD := As_.mk (show (D ((M : Nat) : Int).natAbs).length ≤ 100000 by rw [Int.natAbs_natCast]; exact Nat.le_trans (D_le (k := 1) (by omega)) (by decide))
        have HML := As_.mk hMle
        obtain ⟨lb, hlb⟩ : ∃ lb : Int, (bits M : Int) = lb := ⟨_, rfl⟩
        have HLB := As_.mk (show (bits ((M : Nat) : Int).natAbs : Int) = lb by rw [Int.natAbs_natCast]; exact hlb)
        have HLB2 := As_.mk hlb
        have hlb0 : 0 ≤ lb := by omega
        have hlb1 : lb ≤ 25 := by rw [← hlb]; exact Int.ofNat_le.2 (bits_le_iff.2 (Nat.lt_of_le_of_lt hMle (by decide)))
        clear hM hMle hlb n0a n1a
        go_upto_region 33 with fail
        go_wp2_with fail
        refine (BitLen_calls HB5.out HMD.out).mono ?_
        rintro e2 w6 ⟨rfl, hb6⟩
        rw [HLB.out]
        have hr6 := HR5.out.keep hb6
        have m0 := kc_ hr6.mode 0
        have s0 := kc_ hr6.sgn 0
        simp only [List.getElem?_toArray, List.getElem?_cons_zero, List.getElem?_cons_succ] at m0 s0
        have HR6 := As_.mk hr6
        have HB6 := As_.mk (HB5.out.below hb6)
        clear hb6 hr6
        by_cases hov2 : 128 < lb + q
        · go_wp2_with fail
          refine (over_calls m0 s0).mono ?_
          rintro e2 w7 ⟨⟨x, rfl⟩, rfl⟩
          go_wp2_with fail
          go_ret2
          exact ⟨x, 5, rfl, RR_over hz (by rw [HNA.out, HMM.out, HLB2.out, HQ2.out]; exact hov2) (by decide), HR6.out.below⟩
        · obtain ⟨fa, fb, ha, hcall, _, hnar, hlt⟩ := ld_any (M := M) (q := q) HML.out hq0 hq1 (by rw [HLB2.out]; omega)
          have HCALL := As_.mk hcall
          obtain ⟨x, hx⟩ : ∃ x, swd M q = x := ⟨_, rfl⟩
          rw [hx] at hnar hlt
          have HX := As_.mk hx
          have hcv := fun (W : World) => run_convert_int_float (P := Tryz.prog) W 2 115 .i64 .f64 (M : Int) (by kernel_rfl) Tryz.underlying115
          rw [ha] at hcv
          have hnr := fun (W : World) => run_convert_float_float (P := Tryz.prog) W 115 65 .f64 .f32 _ _ (by kernel_rfl) Tryz.underlying65 hnar
          have HLT := As_.mk hlt
          have hRR : ∀ X : Nat, (q ≤ e → X = fz z e) → RR z e X fl := by
            intro X hX
            have hnov : ¬ 128 < (bits (rm z.natAbs e) : Int) + rq z.natAbs e := by rw [HNA.out, HMM.out, HLB2.out, HQ2.out]; omega
            rcases HFL.out with ⟨h1, h2⟩ | ⟨h1, h2⟩
            · exact RR_exact hz hnov (by rw [HNA.out, HQ2.out]; exact h1) (hX h1) h2
            · exact RR_near hz (by rw [HNA.out, HQ2.out]; omega) h2
          have HRR := As_.mk hRR
          have HSW : As_ (q ≤ e → sword (rm z.natAbs e) (rq z.natAbs e) = x) := ⟨by
            intro h1
            obtain ⟨h2, h3⟩ := rm_exact_lt (n := n) (e := e) HNP.out (by rw [HQ2.out]; exact h1)
            rw [HMM.out] at h2 h3
            rw [HNA.out, HMM.out, HQ2.out, ← HX.out, swd_mid h2 h3]⟩
          clear hcall hx ha hnar hlt hRR
          go_wp2_with fail
          refine (Int64_calls HB6.out (by have := HML.out; omega)).mono ?_
          rintro e2 w7 ⟨rfl, rfl⟩
          go_wp2_with fail
          refine (HCALL.out _).mono ?_
          rintro e2 w7 ⟨rfl, rfl⟩
          by_cases hneg : sgn < 0
          · have hzn : z < 0 := by
              have := HS.out
              unfold cm at this
              split at this
              · assumption
              · split at this <;> omega
            have HZN := As_.mk hzn
            have hng : Op.negFloat .f32 x = 2147483648 + x := neg_single (by have := HLT.out; omega)
            clear hzn
            go_wp2_with fail
            go_ret2
            exact ⟨_, _, rfl, HRR.out _ (fun h => by unfold fz; rw [if_pos HZN.out, HSW.out h]), HR6.out.below⟩
          · have hzn : ¬ z < 0 := by
              intro h
              have := HS.out
              rw [cm_lt h] at this
              omega
            have HZN := As_.mk hzn
            clear hzn
            go_wp2_with fail
            go_ret2
            exact ⟨_, _, rfl, HRR.out _ (fun h => by unfold fz; rw [if_neg (by have := HZN.out; omega), HSW.out h]), HR6.out.below⟩
end Go.Proofs.YtlogcnglmdpejaaGreatDoor.Hd
end
section
namespace Go.Proofs.YtlogcnglmdpejaaGreatDoor.Hd
open Go.RowKit Go.Proofs.YtlogcnglmdpejaaGreatDoorW.PrintWords Go.Proofs.YtlogcnglmdpejaaGreatDoorW.PrintLast Go.Proofs.YtlogcnglmdpejaaGreatDoorW.PrintMore Go.Proofs.YtlogcnglmdpejaaGreatDoor.Pq
attribute [local go_sem] max2_int min2_int max_two min_two max_three min_three max_four min_four
set_option linter.unusedVariables false
set_option linter.unusedSimpArgs false
theorem isD_of {z e : Int} (h : isD z e = true) : bits z.natAbs ≤ 2400 ∧ -3000 ≤ e ∧ e ≤ 3000 ∧ (z ≠ 0 → z.natAbs % 2 = 1) := by
  unfold isD at h
  simp only [Bool.and_eq_true, decide_eq_true_eq] at h
  refine ⟨h.1, h.2.1.1, h.2.1.2, fun hz => ?_⟩
  have h3 := h.2.2
  rw [if_neg hz] at h3
  simpa using h3
theorem round_calls {w : World} {g : Nat} {z e : Int} (h : Big w g z) (hd : isD z e = true) :
    Calls Tryz.prog 227 #[.agg #[.pointer (some ⟨g, 0, none⟩), .int .i64 e], .int .i64 0] w (RPost z e w) := by
  obtain ⟨h1, h2, h3, h4⟩ := isD_of hd
  by_cases hz : z = 0
  · subst hz
    exact round_zero h
  · exact round_some h hz (h4 hz) h1 h2 h3
theorem up_E (n : Nat) : up (E n) 0 = n := by
  unfold up
  rw [List.drop_zero, E_vl, Int.toNat_natCast]
theorem zof_z (z : Int) : zof (cm z 0) (E z.natAbs) = z := by
  unfold zof
  rw [up_E]
  rcases Int.lt_trichotomy z 0 with h | h | h
  · rw [cm_lt h, if_pos (by decide)]; omega
  · subst h; rfl
  · rw [cm_gt h, if_neg (by decide)]; omega
def RdPost (z ex : Int) (w : World) (e : Ending) (w' : World) : Prop := ∃ x fl, e = .returned (.tuple #[.float .f32 x, .int .i64 fl, .int .i64 0]) ∧ RR z ex x fl ∧ Below w.heap.size w w'
set_option maxHeartbeats 1000000 in
theorem RoundDyadic_calls {w : World} {A : Option Addr} {c : Nat} {z ex : Int} (hc : Kd.C (Kd.int .i64) w A (E z.natAbs).length (E z.natAbs)) (hl : (E z.natAbs).length ≤ c) (hd : isD z ex = true) :
    Calls Tryz.prog 181 #[.agg #[.int .i64 (cm z 0), .slice A (E z.natAbs).length c, .int .i64 ex], .int .i64 0] w (RdPost z ex w) := by
  have HD := As_.mk hd
  have HEL := As_.mk (show (E z.natAbs).length ≤ 100 from E_hundred.2 (isD_of hd).1)
  have HF : As_ (impl_IsDyadic.f 3000 (cm z 0) (E z.natAbs) ex = some true) := ⟨by rw [idy_f (by have := HEL.out; omega) (by have := HEL.out; omega), hd]⟩
  have HZ := As_.mk (zof_z z)
  have HED := As_.mk (E_dg z.natAbs)
  obtain ⟨sgn, hsg⟩ : ∃ x, cm z 0 = x := ⟨_, rfl⟩
  obtain ⟨E0, hE⟩ : ∃ E0, E z.natAbs = E0 := ⟨_, rfl⟩
  rw [hE] at hc hl HEL HF HZ HED
  rw [hsg] at HF HZ
  rw [hsg, hE]
  have HC := As_.mk hc
  have HL := As_.mk hl
  clear hc hl hd hsg hE
  go_enter Tryz.func181, Tryz.ntmps181
  go_wp2_with fail
  refine (impl_IsDyadic.calls 3000 sgn A c E0 ex true _ (Kd.C_alloc HC.out _) HL.out HF.out).mono ?_
  rintro e w1 ⟨rfl, hb⟩
  have hbA := (ba_ (Below.refl w.heap.size w) (.cells #[.int .i64 sgn, .slice A E0.length c, .int .i64 ex] 56)).trans (hb.mono (by simp))
  have HB1 := As_.mk hbA
  have hblk := (hb.block w.heap.size (by simp)).trans (heap_alloc_new w _)
  have HBK := As_.mk hblk
  have k0 := kc_ hblk 0
  have k1 := kc_ hblk 1
  have k2 := kc_ hblk 2
  simp only [List.getElem?_toArray, List.getElem?_cons_zero, List.getElem?_cons_succ] at k0 k1 k2
  clear hb hbA hblk
  obtain ⟨N, hNN⟩ : ∃ N, w.heap.size = N := ⟨_, rfl⟩
  rw [hNN] at k0 k1 k2 HBK ⊢
  have HN := As_.mk hNN
  clear hNN
  go_wp2_with fail
  refine (impl_isMode.calls 0 true w1 (by decide)).mono ?_
  rintro e w2 ⟨rfl, ⟨⟨n, rfl⟩⟩⟩
  have HB2 := As_.mk (pN_ (w := w) (B := w.heap.size) (W := w1) HB1.out n)
  have j0 : (w1.drewN n).cell? ⟨N, 0, none⟩ = _ := k0
  have j1 : (w1.drewN n).cell? ⟨N, 1, none⟩ = _ := k1
  have j2 : (w1.drewN n).cell? ⟨N, 2, none⟩ = _ := k2
  generalize w1.drewN n = w2 at HB2 j0 j1 j2 ⊢
  clear k0 k1 k2
  go_wp2_with fail
  refine (numberOf_calls (Kd.C_below HC.out HB2.out) HED.out (Nat.le_trans HEL.out (by decide))).mono ?_
  rintro e w3 ⟨g, rfl, hg, hbig, hb⟩
  rw [HZ.out] at hbig
  have HBG := As_.mk hbig
  have HB3 := As_.mk (HB2.out.trans (hb.mono HB2.out.size))
  clear hbig hb hg
  go_wp2_with fail
  refine (round_calls HBG.out HD.out).mono ?_
  rintro e w4 ⟨x, fl, rfl, hrr, hb⟩
  have HRR := As_.mk hrr
  have HB4 := As_.mk (HB3.out.trans (hb.mono HB3.out.size))
  clear hrr hb
  go_wp2_with fail
  go_ret3
  exact ⟨x, fl, rfl, HRR.out, HB4.out⟩
def pfOk (s : ByteArray) : Bool := match rdy s with | none => false | some (z, e) => if z = 0 then true else decide (¬ 128 < (bits (rm z.natAbs e) : Int) + rq z.natAbs e ∧ rq z.natAbs e ≤ e)
def pfV (s : ByteArray) : Nat := match rdy s with | none => 0 | some (z, e) => if z = 0 then 0 else fz z e
def PfPost (s : ByteArray) (w : World) (e : Ending) (w' : World) : Prop := ∃ x, e = .returned (.tuple #[.float .f32 x, .bool (pfOk s)]) ∧ (pfOk s = true → x = pfV s) ∧ Below w.heap.size w w'
theorem RR_pf {s : ByteArray} {z e : Int} {x : Nat} {fl : Int} (h : rdy s = some (z, e)) (hr : RR z e x fl) : (fl == 0) = pfOk s ∧ (pfOk s = true → x = pfV s) := by
  unfold pfOk pfV
  rw [h]
  unfold RR at hr
  simp only
  by_cases hz : z = 0
  · rw [if_pos hz] at hr
    rw [if_pos hz, if_pos hz, hr.2]
    exact ⟨rfl, fun _ => hr.1⟩
  · rw [if_neg hz] at hr
    rw [if_neg hz, if_neg hz]
    by_cases h1 : 128 < (bits (rm z.natAbs e) : Int) + rq z.natAbs e
    · rw [if_pos h1] at hr
      rw [decide_eq_false (fun h => h.1 h1)]
      exact ⟨beq_eq_false_iff_ne.2 hr, fun h => by cases h⟩
    · rw [if_neg h1] at hr
      by_cases h2 : rq z.natAbs e ≤ e
      · rw [if_pos h2] at hr
        rw [decide_eq_true ⟨h1, h2⟩, hr.2]
        exact ⟨rfl, fun _ => hr.1⟩
      · rw [if_neg h2] at hr
        rw [decide_eq_false (fun h => h2 h.2)]
        exact ⟨beq_eq_false_iff_ne.2 hr, fun h => by cases h⟩
theorem rdy_isD {s : ByteArray} {z e : Int} (h : rdy s = some (z, e)) : isD z e = true := by
  unfold rdy at h
  split at h
  · cases h
  · split at h
    · rename_i hh
      injection h with h
      injection h with h1 h2
      subst h1 h2
      exact hh.2.2
    · cases h
set_option maxHeartbeats 1000000 in
theorem parseFloat_calls {w : World} {s : ByteArray} (hs : s.size ≤ 2000000) : Calls Tryz.prog 127 #[.string s] w (PfPost s w) := by
  have HS := As_.mk hs
  clear hs
  cases hr : rdy s with
  | none =>
    have HR := As_.mk hr
    clear hr
    go_enter Tryz.func127, Tryz.ntmps127
    go_wp2_with fail
    refine (ParseDyadic_calls HS.out).mono ?_
    intro e w1 hp
    unfold PdPost at hp
    rw [HR.out] at hp
    obtain ⟨rfl, hb⟩ := hp
    have HB := As_.mk hb
    clear hb
    go_wp2_with fail
    go_ret2
    have hok : pfOk s = false := by unfold pfOk; rw [HR.out]
    refine ⟨0, by rw [hok]; rfl, ?_, HB.out.alloc HB.out.size _⟩
    intro h
    rw [hok] at h
    cases h
  | some p =>
    obtain ⟨z, ex⟩ := p
    have HR := As_.mk hr
    have HD := As_.mk (rdy_isD hr)
    clear hr
    go_enter Tryz.func127, Tryz.ntmps127
    go_wp2_with fail
    refine (ParseDyadic_calls HS.out).mono ?_
    intro e w1 hp
    unfold PdPost at hp
    rw [HR.out] at hp
    obtain ⟨A, c, rfl, hR, hb⟩ := hp
    obtain ⟨_, hlc, hC⟩ := Kd.R_reads' hR
    have HB := As_.mk hb
    have HC := As_.mk hC
    have HL := As_.mk hlc
    obtain ⟨sgn, hsg⟩ : ∃ x, cm z 0 = x := ⟨_, rfl⟩
    obtain ⟨E0, hE⟩ : ∃ E0, E z.natAbs = E0 := ⟨_, rfl⟩
    have HSG := As_.mk hsg
    have HE := As_.mk hE
    rw [hsg, hE]
    clear hb hC hlc hR hsg hE
    go_wp2_with fail
    rw [← HSG.out, ← HE.out]
    refine (RoundDyadic_calls (Kd.C_alloc HC.out _) HL.out HD.out).mono ?_
    rintro e w2 ⟨x, fl, rfl, hrr, hb⟩
    obtain ⟨h1, h2⟩ := RR_pf HR.out hrr
    have HPF := As_.mk h1
    have HPV := As_.mk h2
    have HB2 := As_.mk (((ba_ HB.out _).trans (hb.mono (by have := HB.out.size; simp; omega))))
    clear hrr hb h1 h2
    go_wp2_with fail
    go_ret2
    exact ⟨x, by rw [← HPF.out]; rfl, HPV.out, HB2.out⟩
end Go.Proofs.YtlogcnglmdpejaaGreatDoor.Hd
end
