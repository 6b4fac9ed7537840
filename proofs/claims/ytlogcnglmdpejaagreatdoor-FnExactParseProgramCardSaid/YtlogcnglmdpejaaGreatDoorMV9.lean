/- Part 9 of the proof of the card of FnExactV: walks of the functions and plain facts on them. -/
import Derived.Test.YtlogcnglmdpejaaGreatDoorMV8
import Derived.Deep.AppendLies
import Derived.Deep.RegionLaw
import Derived.Test.YtlogcnglmdpejaaGreatDoorMV3
section
namespace Go.Proofs.YtlogcnglmdpejaaGreatDoor.Hd
open Go.RowKit Go.Proofs.YtlogcnglmdpejaaGreatDoorW.PrintWords Go.Proofs.YtlogcnglmdpejaaGreatDoorW.PrintLast Go.Proofs.YtlogcnglmdpejaaGreatDoorW.PrintMore Go.Proofs.YtlogcnglmdpejaaGreatDoor.Pq
attribute [local go_sem] max2_int min2_int max_two min_two max_three min_three max_four min_four
set_option linter.unusedVariables false
set_option linter.unusedSimpArgs false
def zof (sgn : Int) (ds : List Int) : Int := if sgn < 0 then -((up ds 0 : Nat) : Int) else (up ds 0 : Nat)
set_option maxHeartbeats 2000000 in
theorem numberOf_calls {w : World} {A : Option Addr} {c : Nat} {sgn ex : Int} {ds : List Int} (hc : Kd.C (Kd.int .i64) w A ds.length ds) (hd : Dg 16777216 ds) (hl : ds.length ≤ 300) :
    Calls Tryz.prog 226 #[.agg #[.int .i64 sgn, .slice A ds.length c, .int .i64 ex]] w fun e w' => ∃ g, e = .returned (.agg #[.pointer (some ⟨g, 0, none⟩), .int .i64 ex]) ∧ w.heap.size ≤ g ∧ Big w' g (zof sgn ds) ∧ Below w.heap.size w w' := by
  have HC := As_.mk hc
  have HD := As_.mk hd
  have HL := As_.mk hl
  clear hc hd hl
  have hb1 : ((w.alloc (.cells #[.int .i64 sgn, .slice A ds.length c, .int .i64 ex] 56)).alloc (.cells #[.pointer none, .int .i64 0] 103)).heap[w.heap.size]? = some (.cells #[.int .i64 sgn, .slice A ds.length c, .int .i64 ex] 56 (0, 0)) := (Below.heap_alloc _ _ _ (by simp)).trans (heap_alloc_new w _)
  have hb2 : ((w.alloc (.cells #[.int .i64 sgn, .slice A ds.length c, .int .i64 ex] 56)).alloc (.cells #[.pointer none, .int .i64 0] 103)).heap[w.heap.size + 1]? = some (.cells #[.pointer none, .int .i64 0] 103 (0, 0)) := by
    have := heap_alloc_new (w.alloc (.cells #[.int .i64 sgn, .slice A ds.length c, .int .i64 ex] 56)) (.cells #[.pointer none, .int .i64 0] 103)
    simpa using this
  have hbw : Below w.heap.size w ((w.alloc (.cells #[.int .i64 sgn, .slice A ds.length c, .int .i64 ex] 56)).alloc (.cells #[.pointer none, .int .i64 0] 103)) := (ba_ (Below.refl _ _) _).alloc (by simp) _
  have HB1 := As_.mk hb1
  have HB2 := As_.mk hb2
  have HBW := As_.mk hbw
  clear hb1 hb2 hbw
  go_enter Tryz.func226, Tryz.ntmps226
  go_wp2_with fail
  obtain ⟨N1, hN1⟩ : ∃ N1, w.heap.size = N1 := ⟨_, rfl⟩
  have HN1 := As_.mk hN1
  rw [hN1] at HB1 HB2 ⊢
  generalize ((w.alloc (.cells #[.int .i64 sgn, .slice A ds.length c, .int .i64 ex] 56)).alloc (.cells #[.pointer none, .int .i64 0] 103)) = W0 at HB1 HB2 HBW ⊢
  have HLT : As_ (N1 < W0.heap.size ∧ N1 + 1 < W0.heap.size) := ⟨heap_lt HB1.out, heap_lt HB2.out⟩
  have HNE : As_ (N1 ≠ N1 + 1) := ⟨by omega⟩
  have HGE : As_ (N1 ≤ N1 + 1) := ⟨by omega⟩
  generalize N1 + 1 = N2 at HB2 HLT HNE HGE ⊢
  have HCW := As_.mk (Kd.C_drew (Kd.C_below HC.out HBW.out))
  clear hN1
  have k0 := kc_ HB1.out 0
  have k1 := kc_ HB1.out 1
  have k2 := kc_ HB1.out 2
  have l0 := kc_ HB2.out 0
  have l1 := kc_ HB2.out 1
  simp only [List.getElem?_toArray, List.getElem?_cons_zero, List.getElem?_cons_succ] at k0 k1 k2 l0 l1
  go_region_with (first | (go_at_call 259; refine (toBig_calls (w := W0.drew) HCW.out HD.out HL.out).mono ?_; rintro e w1 ⟨g, rfl, hge, hbig, hb⟩; have hB1 := (hb.block N1 HLT.out.1).trans HB1.out; have hB2 := (hb.block N2 HLT.out.2).trans HB2.out; have s2 := kc_ hB1 2; have m0 := kc_ hB2 0; have m1 := kc_ hB2 1; have f0 := blk_free hB2 0; have f1 := blk_free hB2 1; simp only [List.getElem?_toArray, List.getElem?_cons_zero, List.getElem?_cons_succ] at s2 m0 m1; have HBB2 := As_.mk hB2; have HGG := As_.mk hge; have HBG := As_.mk hbig; have HB := As_.mk hb; clear hge hbig hb hB1 hB2))
  all_goals
    go_wp2_with fail
    have hend : ((w1.setCell ⟨N2, 0, none⟩ (.pointer (some ⟨g, 0, none⟩))).setCell ⟨N2, 1, none⟩ (.int .i64 ex)).heap[N2]? = some (.cells #[.pointer (some ⟨g, 0, none⟩), .int .i64 ex] 103 (0, 0)) := (blk_set (blk_set HBB2.out 0 _) 1 _).trans rfl
    refine bodyPost_ret (results_cell_row rfl _ _ N2 103 #[.pointer (some ⟨g, 0, none⟩), .int .i64 ex] (0, 0) _ rfl hend Tryz.underlying103 rfl (by kernel_rfl)) rfl ?_
    have hgr : w1.grownBy ((w1.setCell ⟨N2, 0, none⟩ (.pointer (some ⟨g, 0, none⟩))).setCell ⟨N2, 1, none⟩ (.int .i64 ex)) (some N2) := grown_set (grown_set (grown_below (Below.refl _ _) N2) _ _) _ _
    have hbb : Below w.heap.size w w1 := HBW.out.trans ((below_undrew HB.out).mono HBW.out.size)
    obtain ⟨P, hP, hPu⟩ := Bigf.of_big' HBG.out
    have hbig2 := (hP.grown hgr (fun k hk he => by injection he with he; exact (hPu k hk).ne HBB2.out (by intro x h; cases h) (by intro x h; cases h) he) (fun he => by injection he with he; have h1 : W0.heap.size ≤ g := HGG.out; have := HLT.out; omega)).big
    exact ⟨g, rfl, Nat.le_trans HBW.out.size HGG.out, hbig2, bs_ (bs_ hbb (by have := HN1.out; have := HGE.out; omega)) (by have := HN1.out; have := HGE.out; omega)⟩
set_option maxHeartbeats 1000000 in
theorem sign_calls {w : World} {g : Nat} {z ex : Int} (h : Big w g z) : Calls Tryz.prog 122 #[.agg #[.pointer (some ⟨g, 0, none⟩), .int .i64 ex]] w fun e w' => e = .returned (.int .i64 (cm z 0)) ∧ Below w.heap.size w w' := by
  have H := As_.mk h
  clear h
  go_enter Tryz.func122, Tryz.ntmps122
  go_wp2_with fail
  refine (Sign_calls (H.out.below (ba_ (Below.refl _ _) _))).mono ?_
  rintro e w1 ⟨rfl, rfl⟩
  go_wp2_with fail
  go_ret
  exact ⟨rfl, ba_ (Below.refl _ _) _⟩
def dec (t : ByteArray) : Nat → Nat
  | 0 => 0
  | i + 1 => dec t i * 10 + (bt t i - 48).toNat
theorem bytes_pos {t : ByteArray} (h : 0 < t.size) : t.toList.isEmpty = false := by
  rw [Go.ByteArray.toList_eq]
  have h2 := data_length t
  cases hd : t.data.toList with
  | nil =>
    rw [hd] at h2
    have : (0 : Nat) = t.size := h2
    omega
  | cons a l => rfl
theorem dec_len {t : ByteArray} {i : Nat} (hd : ∀ j : Nat, j < i → 48 ≤ bt t j ∧ bt t j ≤ 57) : (D (dec t i)).length ≤ i := by
  have h : ∀ i : Nat, (∀ j : Nat, j < i → 48 ≤ bt t j ∧ bt t j ≤ 57) → dec t i < 10 ^ i := by
    intro i
    induction i with
    | zero => intro _; exact Nat.one_pos
    | succ i ih =>
      intro hd
      have h1 := ih (fun j hj => hd j (by omega))
      have h2 := hd i (by omega)
      rw [Nat.pow_succ]
      unfold dec
      generalize 10 ^ i = p at *
      omega
  exact D_le (Nat.lt_of_lt_of_le (h i hd) (Nat.pow_le_pow_left (by decide) _))
set_option maxHeartbeats 4000000 in
set_option maxRecDepth 100000 in
theorem SetString_pos {w : World} {gz : Nat} {t : ByteArray} (hz : Ic w gz) (h0 : 0 < t.size) (hl : t.size ≤ 800) (hd : ∀ i : Nat, i < t.size → 48 ≤ bt t i ∧ bt t i ≤ 57) :
    Calls Tryz.prog 254 #[.pointer (some ⟨gz, 0, none⟩), .string t, .int .i64 10] w fun e w' => e = .returned (.tuple #[.pointer (some ⟨gz, 0, none⟩), .bool true]) ∧ Big w' gz (dec t t.size : Nat) ∧ w.grownBy w' (some gz) := by
  have HZ := As_.mk hz
  have HD := As_.mk hd
  have HL := As_.mk hl
  have h45 : ((bt t 0) == 45) = false := by have := hd 0 h0; simp at this ⊢; omega
  have h43 : ((bt t 0) == 43) = false := by have := hd 0 h0; simp at this ⊢; omega
  have hx0 : ∀ h : 0 < t.size, ((t[0]'h).toNat : Int) = bt t 0 := bt_at t 0
  have q0 := eq_true h0
  have qi0 : (0 < (t.size : Int)) = True := eq_true (by omega)
  have hlt : t.toList ≠ [] := by
    intro h
    have h1 := List.isEmpty_iff.2 h
    have h2 := bytes_pos h0
    rw [h1] at h2
    cases h2
  have hne : t.toList.isEmpty = false := by simpa using hlt
  have hne2 : (t.toList = []) = False := eq_false hlt
  clear hlt
  clear hz hd hl
  go_enter Tryz.func254, Tryz.ntmps254
  go_wp2_with fail
  go_loopg [9, 35] (t.size + 1) (fun kq v9 v35 w' => ∃ (i : Nat) (A : Option Addr) (c : Nat), v9 = .slice A (D (dec t i)).length c ∧ v35 = .int .i64 (i : Int) ∧ As_ (i ≤ t.size ∧ t.size - i < kq) ∧ As_ ((D (dec t i)).length ≤ c) ∧ As_ (Kd.C (Kd.int .u32) w' A (D (dec t i)).length (D (dec t i))) ∧ As_ (Below w.heap.size w w'))
  case atStart =>
    have e : D (dec t 0) = [] := D_zero
    exact ⟨0, _, _, by rw [e]; rfl, rfl, ⟨by omega, by omega⟩, ⟨by rw [e]; exact Nat.le_refl _⟩, ⟨by rw [e]; exact ⟨rfl, by decide, fun h => absurd h (by decide)⟩⟩, ⟨ba_ (Below.refl _ _) _⟩⟩
  case round =>
    obtain ⟨i, A, c, rfl, rfl, HI, HLC, HC, HB⟩ := hrel
    by_cases hi : i < t.size
    · have hw := HI.out
      have hii : (i : Int) < (t.size : Int) := by omega
      have hdi := HD.out i hi
      have hxi : ∀ h : i < t.size, ((t[i]'h).toNat : Int) = bt t i := bt_at t i
      have qi := eq_true hi
      have hlo : decide (bt t i < 48) = false := decide_eq_false (by omega)
      have hhi : decide (57 < bt t i) = false := decide_eq_false (by omega)
      have hw1 : IntKind.i64.wrap ((i : Int) + 1) = (i : Int) + 1 := by rw [i64_w, w64 (by omega) (by have := HL.out; omega)]
      have hdlen := dec_len (i := i) (fun j hj => HD.out j (by omega))
      have HDL := As_.mk (show (D (dec t i)).length ≤ 1000 from Nat.le_trans hdlen (by have := HL.out; omega))
      obtain ⟨d, hd⟩ : ∃ d : Nat, (bt t i - 48).toNat = d := ⟨_, rfl⟩
      have hd2 : IntKind.u8.wrap (bt t i - 48) = (d : Int) := by rw [IntKind.wrap_u8]; omega
      have HDD := As_.mk (show d ≤ 9 by omega)
      have HNX := As_.mk (show dec t (i + 1) = dec t i * 10 + d by rw [← hd]; rfl)
      clear hdi hdlen hd hw
      generalize hX : dec t i = X at *
      have hw10 : IntKind.u32.wrap 10 = 10 := by decide
      have hd3 : IntKind.u32.wrap (d : Int) = (d : Int) := by rw [IntKind.wrap_u32]; have := HDD.out; omega
      have HD10 : As_ (D 10 = [10]) := ⟨by rw [D_one (by decide) (by decide)]; rfl⟩
      have HLN1 : As_ ((D (X * 10)).length ≤ 99999) := ⟨Nat.le_trans (prod_len HDL.out (by rw [HD10.out]; exact Nat.le_refl _)) (by decide)⟩
      have HLN2 : As_ ((D d).length ≤ 99999) := ⟨Nat.le_trans (D_mono (show d ≤ 10 by have := HDD.out; omega)) (by rw [HD10.out]; decide)⟩
      have HDG : As_ (Dg 4294967296 [(d : Int)]) := ⟨Dg.cons (by omega) (by have := HDD.out; omega) (Dg.nil _)⟩
      have HMUL : As_ (∀ (W : World) (blk : Nat), Below wr.heap.size wr W → Kd.C (Kd.int .u32) W (some ⟨blk, 0, none⟩) 1 [10] → Calls Tryz.prog 229 #[.slice A (D X).length c, .slice (some ⟨blk, 0, none⟩) 1 1] W (Gives W (X * 10))) := ⟨fun W blk hb hc => by
        have h := magMul_calls (w := W) (m := X) (n := 10) (A1 := some ⟨blk, 0, none⟩) (c1 := 1) (Kd.C_below HC.out hb) HLC.out (by rw [HD10.out]; exact hc) (by rw [HD10.out]; exact Nat.le_refl _) HDL.out (by rw [HD10.out]; decide)
        rw [HD10.out] at h
        exact h⟩
      have HTRIM : As_ (∀ (W : World) (A' : Option Addr), Kd.C (Kd.int .u32) W A' 1 [(d : Int)] → Calls Tryz.prog 219 #[.slice A' 1 1] W (Gives W d)) := ⟨fun W A' hc => by
        refine (magTrim_calls (ds := [(d : Int)]) (c := 1) hc (Nat.le_refl _) HDG.out (by simp)).mono ?_
        rintro e w' ⟨v, rfl, ⟨A, c, rfl, hl, hc⟩, hb⟩
        have e1 : (vl 4294967296 [(d : Int)]).toNat = d := by rw [vl_cons, vl_nil]; omega
        rw [e1] at hl hc ⊢
        exact ⟨A, c, rfl, hl, hc, hb⟩⟩
      have BA : As_ (Below wr.heap.size wr (wr.alloc (.cells #[.int .u32 10] 202)).drew) := ⟨(ba_ (Below.refl _ _) _).drew⟩
      have BB : As_ (Below wr.heap.size wr ((wr.alloc (.cells #[.int .u32 10] 202)).alloc (.cells #[.int .u32 (d : Int)] 202)).drew) := ⟨((ba_ (Below.refl _ _) _).alloc (by simp) _).drew⟩
      have BC : As_ (Below wr.heap.size wr ((wr.alloc (.cells #[.int .u32 (d : Int)] 202)).alloc (.cells #[.int .u32 10] 202)).drew) := ⟨((ba_ (Below.refl _ _) _).alloc (by simp) _).drew⟩
      have CA : As_ (Kd.C (Kd.int .u32) (wr.alloc (.cells #[.int .u32 10] 202)).drew (some ⟨wr.heap.size, 0, none⟩) 1 [10]) := ⟨Kd.C_drew (C_new wr [10] #[.int .u32 10] rfl (by decide))⟩
      have CB : As_ (Kd.C (Kd.int .u32) ((wr.alloc (.cells #[.int .u32 10] 202)).alloc (.cells #[.int .u32 (d : Int)] 202)).drew (some ⟨wr.heap.size, 0, none⟩) 1 [10]) := ⟨Kd.C_drew (Kd.C_alloc (C_new wr [10] #[.int .u32 10] rfl (by decide)) _)⟩
      have CBd : As_ (Kd.C (Kd.int .u32) ((wr.alloc (.cells #[.int .u32 10] 202)).alloc (.cells #[.int .u32 (d : Int)] 202)).drew (some ⟨wr.heap.size + 1, 0, none⟩) 1 [(d : Int)]) := ⟨by
        have h := C_new (wr.alloc (.cells #[.int .u32 10] 202)) [(d : Int)] #[.int .u32 (d : Int)] rfl (by simp)
        rw [show (wr.alloc (.cells #[.int .u32 10] 202)).heap.size = wr.heap.size + 1 by simp] at h
        exact Kd.C_drew h⟩
      have CC : As_ (Kd.C (Kd.int .u32) ((wr.alloc (.cells #[.int .u32 (d : Int)] 202)).alloc (.cells #[.int .u32 10] 202)).drew (some ⟨wr.heap.size + 1, 0, none⟩) 1 [10]) := ⟨by
        have h := C_new (wr.alloc (.cells #[.int .u32 (d : Int)] 202)) [10] #[.int .u32 10] rfl (by decide)
        rw [show (wr.alloc (.cells #[.int .u32 (d : Int)] 202)).heap.size = wr.heap.size + 1 by simp] at h
        exact Kd.C_drew h⟩
      have CCd : As_ (Kd.C (Kd.int .u32) ((wr.alloc (.cells #[.int .u32 (d : Int)] 202)).alloc (.cells #[.int .u32 10] 202)).drew (some ⟨wr.heap.size, 0, none⟩) 1 [(d : Int)]) := ⟨Kd.C_drew (Kd.C_alloc (C_new wr [(d : Int)] #[.int .u32 (d : Int)] rfl (by simp)) _)⟩
      go_wp2_with fail
      go_region_law
        (first
          | (go_simp; go_at_call 229; (refine (HMUL.out _ _ ?qb_ ?qc_).mono ?_; (case qb_ => first | exact BA.out | exact BB.out | exact BC.out); (case qc_ => first | exact CA.out | exact CB.out | exact CC.out); rintro e w1 ⟨A1, c1, rfl, hl1, hc1, hb1⟩; (first | have HE := As_.mk (Kd.C_below CBd.out hb1) | have HE := As_.mk (Kd.C_below CCd.out hb1) | have HE := As_.mk (C_new w1 [(d : Int)] #[.int .u32 (d : Int)] rfl (by simp))); (first | have HB1 := As_.mk (BA.out.trans (hb1.mono BA.out.size)) | have HB1 := As_.mk (BB.out.trans (hb1.mono BB.out.size)) | have HB1 := As_.mk (BC.out.trans (hb1.mono BC.out.size))); have HM := As_.mk hc1; have HML := As_.mk hl1; clear hl1 hc1 hb1))
          | (go_simp; go_at_call 219; (refine (HTRIM.out _ _ HE.out).mono ?_; rintro e w2 ⟨A2, c2, rfl, hl2, hc2, hb2⟩; (first | have HM2 := As_.mk (Kd.C_below HM.out hb2) | have HM2 := As_.mk (Kd.C_below (Kd.C_alloc HM.out _) hb2)); (first | have HB2 := As_.mk (HB1.out.trans (hb2.mono HB1.out.size)) | have HB2 := As_.mk ((HB1.out.alloc HB1.out.size _).trans (hb2.mono (HB1.out.alloc HB1.out.size _).size))); have HT := As_.mk hc2; have HTL := As_.mk hl2; clear hl2 hc2 hb2))
          | (go_simp; go_at_call 179; (refine (magAdd_calls HM2.out HML.out HT.out HTL.out HLN1.out HLN2.out).mono ?_; rintro e w3 ⟨A3, c3, rfl, hl3, hc3, hb3⟩; have HR3 := As_.mk hc3; have HRL := As_.mk hl3; have HB3 := As_.mk (HB2.out.trans (hb3.mono HB2.out.size)); clear hl3 hc3 hb3)))
      all_goals
        go_wp2_with fail
        go_roundg (t.size - i)
        case measure => have := HI.out; omega
        case rel => exact ⟨i + 1, A3, c3, by rw [HNX.out], rfl, ⟨by omega, by omega⟩, ⟨by rw [HNX.out]; exact HRL.out⟩, ⟨by rw [HNX.out]; exact HR3.out⟩, ⟨HB.out.trans (HB3.out.mono HB.out.size)⟩⟩
    · obtain rfl : i = t.size := by have := HI.out; omega
      have HDL := As_.mk (show (D (dec t t.size)).length ≤ 100000 from Nat.le_trans (dec_len HD.out) (by have := HL.out; omega))
      have hge : ¬ (t.size : Int) < (t.size : Int) := by omega
      generalize hX : dec t t.size = X at *
      go_wp2_with fail
      refine (put_D false (HZ.out.below HB.out) HC.out HLC.out HDL.out).mono ?_
      rintro e w2 ⟨rfl, hbig, hg⟩
      have HBIG := As_.mk hbig
      have HG := As_.mk hg
      clear hbig hg
      go_wp2_with fail
      go_ret2
      exact ⟨rfl, by rw [hX]; exact HBIG.out, grown_then (grown_below HB.out gz) HG.out⟩
set_option maxHeartbeats 4000000 in
set_option maxRecDepth 100000 in
theorem SetString_neg {w : World} {gz : Nat} {s t : ByteArray} (hz : Ic w gz) (hs0 : 0 < s.size) (hs1 : bt s 0 = 45) (hst : s.extract 1 s.size = t) (h0 : 0 < t.size) (hl : t.size ≤ 800) (hd : ∀ i : Nat, i < t.size → 48 ≤ bt t i ∧ bt t i ≤ 57) :
    Calls Tryz.prog 254 #[.pointer (some ⟨gz, 0, none⟩), .string s, .int .i64 10] w fun e w' => e = .returned (.tuple #[.pointer (some ⟨gz, 0, none⟩), .bool true]) ∧ Big w' gz (-((dec t t.size : Nat) : Int)) ∧ w.grownBy w' (some gz) := by
  have HZ := As_.mk hz
  have HD := As_.mk hd
  have HL := As_.mk hl
  have h45 : ((bt s 0) == 45) = true := by simp [hs1]
  have hx0 : ∀ h : 0 < s.size, ((s[0]'h).toNat : Int) = bt s 0 := bt_at s 0
  have q0 := eq_true hs0
  have qi0 : (0 < (s.size : Int)) = True := eq_true (by omega)
  have qi1 : ((1 : Int) ≤ (s.size : Int)) = True := eq_true (by omega)
  have hnes : s.toList.isEmpty = false := bytes_pos hs0
  have hnes2 : (s.toList = []) = False := eq_false (fun h => by rw [h] at hnes; cases hnes)
  clear hs1
  have hlt : t.toList ≠ [] := by
    intro h
    have h1 := List.isEmpty_iff.2 h
    have h2 := bytes_pos h0
    rw [h1] at h2
    cases h2
  have hne : t.toList.isEmpty = false := by simpa using hlt
  have hne2 : (t.toList = []) = False := eq_false hlt
  clear hlt
  clear hz hd hl
  go_enter Tryz.func254, Tryz.ntmps254
  go_wp2_with fail
  go_loopg [9, 35] (t.size + 1) (fun kq v9 v35 w' => ∃ (i : Nat) (A : Option Addr) (c : Nat), v9 = .slice A (D (dec t i)).length c ∧ v35 = .int .i64 (i : Int) ∧ As_ (i ≤ t.size ∧ t.size - i < kq) ∧ As_ ((D (dec t i)).length ≤ c) ∧ As_ (Kd.C (Kd.int .u32) w' A (D (dec t i)).length (D (dec t i))) ∧ As_ (Below w.heap.size w w'))
  case atStart =>
    have e : D (dec t 0) = [] := D_zero
    exact ⟨0, _, _, by rw [e]; rfl, rfl, ⟨by omega, by omega⟩, ⟨by rw [e]; exact Nat.le_refl _⟩, ⟨by rw [e]; exact ⟨rfl, by decide, fun h => absurd h (by decide)⟩⟩, ⟨ba_ (Below.refl _ _) _⟩⟩
  case round =>
    obtain ⟨i, A, c, rfl, rfl, HI, HLC, HC, HB⟩ := hrel
    by_cases hi : i < t.size
    · have hw := HI.out
      have hii : (i : Int) < (t.size : Int) := by omega
      have hdi := HD.out i hi
      have hxi : ∀ h : i < t.size, ((t[i]'h).toNat : Int) = bt t i := bt_at t i
      have qi := eq_true hi
      have hlo : decide (bt t i < 48) = false := decide_eq_false (by omega)
      have hhi : decide (57 < bt t i) = false := decide_eq_false (by omega)
      have hw1 : IntKind.i64.wrap ((i : Int) + 1) = (i : Int) + 1 := by rw [i64_w, w64 (by omega) (by have := HL.out; omega)]
      have hdlen := dec_len (i := i) (fun j hj => HD.out j (by omega))
      have HDL := As_.mk (show (D (dec t i)).length ≤ 1000 from Nat.le_trans hdlen (by have := HL.out; omega))
      obtain ⟨d, hd⟩ : ∃ d : Nat, (bt t i - 48).toNat = d := ⟨_, rfl⟩
      have hd2 : IntKind.u8.wrap (bt t i - 48) = (d : Int) := by rw [IntKind.wrap_u8]; omega
      have HDD := As_.mk (show d ≤ 9 by omega)
      have HNX := As_.mk (show dec t (i + 1) = dec t i * 10 + d by rw [← hd]; rfl)
      clear hdi hdlen hd hw
      generalize hX : dec t i = X at *
      have hw10 : IntKind.u32.wrap 10 = 10 := by decide
      have hd3 : IntKind.u32.wrap (d : Int) = (d : Int) := by rw [IntKind.wrap_u32]; have := HDD.out; omega
      have HD10 : As_ (D 10 = [10]) := ⟨by rw [D_one (by decide) (by decide)]; rfl⟩
      have HLN1 : As_ ((D (X * 10)).length ≤ 99999) := ⟨Nat.le_trans (prod_len HDL.out (by rw [HD10.out]; exact Nat.le_refl _)) (by decide)⟩
      have HLN2 : As_ ((D d).length ≤ 99999) := ⟨Nat.le_trans (D_mono (show d ≤ 10 by have := HDD.out; omega)) (by rw [HD10.out]; decide)⟩
      have HDG : As_ (Dg 4294967296 [(d : Int)]) := ⟨Dg.cons (by omega) (by have := HDD.out; omega) (Dg.nil _)⟩
      have HMUL : As_ (∀ (W : World) (blk : Nat), Below wr.heap.size wr W → Kd.C (Kd.int .u32) W (some ⟨blk, 0, none⟩) 1 [10] → Calls Tryz.prog 229 #[.slice A (D X).length c, .slice (some ⟨blk, 0, none⟩) 1 1] W (Gives W (X * 10))) := ⟨fun W blk hb hc => by
        have h := magMul_calls (w := W) (m := X) (n := 10) (A1 := some ⟨blk, 0, none⟩) (c1 := 1) (Kd.C_below HC.out hb) HLC.out (by rw [HD10.out]; exact hc) (by rw [HD10.out]; exact Nat.le_refl _) HDL.out (by rw [HD10.out]; decide)
        rw [HD10.out] at h
        exact h⟩
      have HTRIM : As_ (∀ (W : World) (A' : Option Addr), Kd.C (Kd.int .u32) W A' 1 [(d : Int)] → Calls Tryz.prog 219 #[.slice A' 1 1] W (Gives W d)) := ⟨fun W A' hc => by
        refine (magTrim_calls (ds := [(d : Int)]) (c := 1) hc (Nat.le_refl _) HDG.out (by simp)).mono ?_
        rintro e w' ⟨v, rfl, ⟨A, c, rfl, hl, hc⟩, hb⟩
        have e1 : (vl 4294967296 [(d : Int)]).toNat = d := by rw [vl_cons, vl_nil]; omega
        rw [e1] at hl hc ⊢
        exact ⟨A, c, rfl, hl, hc, hb⟩⟩
      have BA : As_ (Below wr.heap.size wr (wr.alloc (.cells #[.int .u32 10] 202)).drew) := ⟨(ba_ (Below.refl _ _) _).drew⟩
      have BB : As_ (Below wr.heap.size wr ((wr.alloc (.cells #[.int .u32 10] 202)).alloc (.cells #[.int .u32 (d : Int)] 202)).drew) := ⟨((ba_ (Below.refl _ _) _).alloc (by simp) _).drew⟩
      have BC : As_ (Below wr.heap.size wr ((wr.alloc (.cells #[.int .u32 (d : Int)] 202)).alloc (.cells #[.int .u32 10] 202)).drew) := ⟨((ba_ (Below.refl _ _) _).alloc (by simp) _).drew⟩
      have CA : As_ (Kd.C (Kd.int .u32) (wr.alloc (.cells #[.int .u32 10] 202)).drew (some ⟨wr.heap.size, 0, none⟩) 1 [10]) := ⟨Kd.C_drew (C_new wr [10] #[.int .u32 10] rfl (by decide))⟩
      have CB : As_ (Kd.C (Kd.int .u32) ((wr.alloc (.cells #[.int .u32 10] 202)).alloc (.cells #[.int .u32 (d : Int)] 202)).drew (some ⟨wr.heap.size, 0, none⟩) 1 [10]) := ⟨Kd.C_drew (Kd.C_alloc (C_new wr [10] #[.int .u32 10] rfl (by decide)) _)⟩
      have CBd : As_ (Kd.C (Kd.int .u32) ((wr.alloc (.cells #[.int .u32 10] 202)).alloc (.cells #[.int .u32 (d : Int)] 202)).drew (some ⟨wr.heap.size + 1, 0, none⟩) 1 [(d : Int)]) := ⟨by
        have h := C_new (wr.alloc (.cells #[.int .u32 10] 202)) [(d : Int)] #[.int .u32 (d : Int)] rfl (by simp)
        rw [show (wr.alloc (.cells #[.int .u32 10] 202)).heap.size = wr.heap.size + 1 by simp] at h
        exact Kd.C_drew h⟩
      have CC : As_ (Kd.C (Kd.int .u32) ((wr.alloc (.cells #[.int .u32 (d : Int)] 202)).alloc (.cells #[.int .u32 10] 202)).drew (some ⟨wr.heap.size + 1, 0, none⟩) 1 [10]) := ⟨by
        have h := C_new (wr.alloc (.cells #[.int .u32 (d : Int)] 202)) [10] #[.int .u32 10] rfl (by decide)
        rw [show (wr.alloc (.cells #[.int .u32 (d : Int)] 202)).heap.size = wr.heap.size + 1 by simp] at h
        exact Kd.C_drew h⟩
      have CCd : As_ (Kd.C (Kd.int .u32) ((wr.alloc (.cells #[.int .u32 (d : Int)] 202)).alloc (.cells #[.int .u32 10] 202)).drew (some ⟨wr.heap.size, 0, none⟩) 1 [(d : Int)]) := ⟨Kd.C_drew (Kd.C_alloc (C_new wr [(d : Int)] #[.int .u32 (d : Int)] rfl (by simp)) _)⟩
      go_wp2_with fail
      go_region_law
        (first
          | (go_simp; go_at_call 229; (refine (HMUL.out _ _ ?qb_ ?qc_).mono ?_; (case qb_ => first | exact BA.out | exact BB.out | exact BC.out); (case qc_ => first | exact CA.out | exact CB.out | exact CC.out); rintro e w1 ⟨A1, c1, rfl, hl1, hc1, hb1⟩; (first | have HE := As_.mk (Kd.C_below CBd.out hb1) | have HE := As_.mk (Kd.C_below CCd.out hb1) | have HE := As_.mk (C_new w1 [(d : Int)] #[.int .u32 (d : Int)] rfl (by simp))); (first | have HB1 := As_.mk (BA.out.trans (hb1.mono BA.out.size)) | have HB1 := As_.mk (BB.out.trans (hb1.mono BB.out.size)) | have HB1 := As_.mk (BC.out.trans (hb1.mono BC.out.size))); have HM := As_.mk hc1; have HML := As_.mk hl1; clear hl1 hc1 hb1))
          | (go_simp; go_at_call 219; (refine (HTRIM.out _ _ HE.out).mono ?_; rintro e w2 ⟨A2, c2, rfl, hl2, hc2, hb2⟩; (first | have HM2 := As_.mk (Kd.C_below HM.out hb2) | have HM2 := As_.mk (Kd.C_below (Kd.C_alloc HM.out _) hb2)); (first | have HB2 := As_.mk (HB1.out.trans (hb2.mono HB1.out.size)) | have HB2 := As_.mk ((HB1.out.alloc HB1.out.size _).trans (hb2.mono (HB1.out.alloc HB1.out.size _).size))); have HT := As_.mk hc2; have HTL := As_.mk hl2; clear hl2 hc2 hb2))
          | (go_simp; go_at_call 179; (refine (magAdd_calls HM2.out HML.out HT.out HTL.out HLN1.out HLN2.out).mono ?_; rintro e w3 ⟨A3, c3, rfl, hl3, hc3, hb3⟩; have HR3 := As_.mk hc3; have HRL := As_.mk hl3; have HB3 := As_.mk (HB2.out.trans (hb3.mono HB2.out.size)); clear hl3 hc3 hb3)))
      all_goals
        go_wp2_with fail
        go_roundg (t.size - i)
        case measure => have := HI.out; omega
        case rel => exact ⟨i + 1, A3, c3, by rw [HNX.out], rfl, ⟨by omega, by omega⟩, ⟨by rw [HNX.out]; exact HRL.out⟩, ⟨by rw [HNX.out]; exact HR3.out⟩, ⟨HB.out.trans (HB3.out.mono HB.out.size)⟩⟩
    · obtain rfl : i = t.size := by have := HI.out; omega
      have HDL := As_.mk (show (D (dec t t.size)).length ≤ 100000 from Nat.le_trans (dec_len HD.out) (by have := HL.out; omega))
      have hge : ¬ (t.size : Int) < (t.size : Int) := by omega
      generalize hX : dec t t.size = X at *
      go_wp2_with fail
      refine (put_D true (HZ.out.below HB.out) HC.out HLC.out HDL.out).mono ?_
      rintro e w2 ⟨rfl, hbig, hg⟩
      have HBIG := As_.mk hbig
      have HG := As_.mk hg
      clear hbig hg
      go_wp2_with fail
      go_ret2
      exact ⟨rfl, by rw [hX]; simpa [sg] using HBIG.out, grown_then (grown_below HB.out gz) HG.out⟩
end Go.Proofs.YtlogcnglmdpejaaGreatDoor.Hd
end
section
namespace Go.Proofs.YtlogcnglmdpejaaGreatDoor.Pq
open Go.RowKit Go.Proofs.YtlogcnglmdpejaaGreatDoorW.PrintWords Go.Proofs.YtlogcnglmdpejaaGreatDoorW.PrintLast Go.Proofs.YtlogcnglmdpejaaGreatDoorW.PrintMore
attribute [local go_sem] max2_int min2_int max_two min_two max_three min_three max_four min_four
set_option linter.unusedVariables false
set_option linter.unusedSimpArgs false
mutual
def impl_isNumeral.j0 : Nat → ByteArray → Bool → Option (Bool)
 | 0, _, _ => none
 | k + 1, x0, x11 => if x11 = true then (if 1 ≤ (x0.size : Int) then (if (x0.extract 1 x0.size).toList = ([48] : List UInt8) then (some false) else (impl_isNumeral.j1 k (x0.extract 1 x0.size))) else (none)) else (impl_isNumeral.j1 k x0)
def impl_isNumeral.j1 : Nat → ByteArray → Option (Bool)
 | 0, _ => none
 | k + 1, x0 => if x0.toList = ([] : List UInt8) then (impl_isNumeral.j2 k x0 true) else (if 0 < (x0.size : Int) then (if (bt x0 0) = 48 then (impl_isNumeral.j2 k x0 (decide ((x0.size : Int) > 1))) else (impl_isNumeral.j2 k x0 false)) else (none))
def impl_isNumeral.j2 : Nat → ByteArray → Bool → Option (Bool)
 | 0, _, _ => none
 | k + 1, x0, x27 => if x27 = true then (some false) else (impl_isNumeral.l0 k x0 (x0.size : Int) 0)
def impl_isNumeral.l0 : Nat → ByteArray → Int → Int → Option (Bool)
 | 0, _, _, _ => none
 | k + 1, x0, x29, x30 => if x30 < x29 then (if 0 ≤ x30 then (if x30 < (x0.size : Int) then (if (bt x0 x30) < 48 then (some false) else (if (bt x0 x30) > 57 then (some false) else (impl_isNumeral.l0 k x0 x29 (wrap64 (x30 + 1))))) else (none)) else (none)) else (some true)
end
def impl_isNumeral.f (k : Nat) (a0 : ByteArray) : Option (Bool) := if (a0.size : Int) > 0 then (if 0 < (a0.size : Int) then (impl_isNumeral.j0 k a0 ((bt a0 0) == 45)) else (none)) else (impl_isNumeral.j0 k a0 false)
set_option maxHeartbeats 8000000 in
set_option maxRecDepth 100000 in
theorem impl_isNumeral.calls (k : Nat) (a0 : ByteArray) (r : Bool) (w : World) (h : impl_isNumeral.f k a0 = some r) :
  Calls Tryz.prog 221 #[.string a0] w fun e w' => e = .returned (.bool r) ∧ Drawn0 w w' := by
 have H : (if (a0.size : Int) > 0 then (if 0 < (a0.size : Int) then (impl_isNumeral.j0 k a0 ((bt a0 0) == 45)) else (none)) else (impl_isNumeral.j0 k a0 false)) = some r := h
 clear h
 have HC2 := As_.mk H
 clear H
 go_enter Tryz.func221, Tryz.ntmps221
 go_upto_region 1 with (fail)
 go_cut [11] (fun v11 wc => ∃ (kq : Nat) (x11_1 : Bool), v11 = .bool x11_1 ∧ As_ (impl_isNumeral.j0 kq a0 x11_1 = some r) ∧ As_ (kq ≤ k) ∧ Drawn0 w wc)
 case first =>
  have H := HC2.out
  clear HC2
  by_cases c3 : (a0.size : Int) > 0
  ·rw [if_pos c3] at H
   have c3b0 : decide (0 < (a0.size : Int)) = true := decide_eq_true c3
   have c3b1 : decide (0 < a0.size) = true := decide_eq_true (by omega)
   clear c3
   (first | rw [c3b0] | (simp only [i64_w, i32_w]; rw [c3b0]) | skip)
   by_cases c4 : 0 < (a0.size : Int)
   ·rw [if_pos c4] at H
    have c4b0 : decide (0 < (a0.size : Int)) = true := decide_eq_true c4
    have c4b1 : decide (0 < a0.size) = true := decide_eq_true (by omega)
    clear c4
    have H' := As_.mk H
    clear H
    have p5 : 0 ≤ (0 : Int) := (by omega)
    have q5 : 0 < a0.size := (by have : (0 : Int) < (a0.size : Int) := of_decide_eq_true (by first | (with_reducible assumption) | assumption); omega)
    have hx5 : ∀ h : 0 < a0.size, ((a0[0]'h).toNat : Int) = bt a0 0 := bt_at a0 0
    clear p5
    have qi5 : (0 < (a0.size : Int)) = True := eq_true (of_decide_eq_true (by first | (with_reducible assumption) | assumption))
    replace q5 := eq_true q5
    go_wp2
    go_meet
    case rel => exact ⟨_, (((bt a0 0) == 45)), (by first | rfl | (simp; done) | (simp [*]; done)), H', ⟨by first | omega | exact Nat.le_refl _⟩, by repeat (first | exact Drawn0.refl _ | apply Drawn0.step)⟩
   ·rw [if_neg c4] at H
    exact absurd H (by simp)
  ·rw [if_neg c3] at H
   have c3b0 : decide (0 < (a0.size : Int)) = false := decide_eq_false c3
   have c3b1 : decide (0 < a0.size) = false := decide_eq_false (by omega)
   clear c3
   (first | rw [c3b0] | (simp only [i64_w, i32_w]; rw [c3b0]) | skip)
   have H' := As_.mk H
   clear H
   go_wp2
   go_meet
   case rel => exact ⟨_, (false), (by first | rfl | (simp; done) | (simp [*]; done)), H', ⟨by first | omega | exact Nat.le_refl _⟩, by repeat (first | exact Drawn0.refl _ | apply Drawn0.step)⟩
 case rest =>
  clear HC2
  try clear c2
  try clear p2
  try clear c3
  try clear c3b0
  try clear c3b1
  try clear c4
  try clear c4b0
  try clear c4b1
  try clear p5
  try clear q5
  try clear hx5
  try clear qi5
  try clear p5
  try clear q5
  obtain ⟨kq, x11_1, rfl, HA, HJ1, ⟨mc1, rfl⟩⟩ := hcut
  cases kq with
  | zero => exact absurd HA.out (by simp [impl_isNumeral.j0])
  | succ kj1 =>
   have H := HA.out
   clear HA
   simp only [impl_isNumeral.j0] at H
   have HC6 := As_.mk H
   clear H
   go_upto_if 11 with (fail)
   go_cut [0] (fun v0 wc => ∃ (kq : Nat) (x0_5 : ByteArray), v0 = .string x0_5 ∧ As_ (impl_isNumeral.j1 kq x0_5 = some r) ∧ As_ (kq ≤ kj1) ∧ Drawn0 w wc)
   case first =>
    have H := HC6.out
    clear HC6
    by_cases c7 : x11_1 = true
    ·subst c7
     have H1 : (if 1 ≤ (a0.size : Int) then (if (a0.extract 1 a0.size).toList = ([48] : List UInt8) then (some false) else (impl_isNumeral.j1 kj1 (a0.extract 1 a0.size))) else (none)) = some r := by rw [if_pos rfl] at H; exact H
     clear H
     have H := H1
     clear H1
     by_cases c8 : 1 ≤ (a0.size : Int)
     ·rw [if_pos c8] at H
      have c8b0 := eq_true c8
      have c8b1 : decide (1 ≤ (a0.size : Int)) = true := decide_eq_true c8
      clear c8
      by_cases c9 : (a0.extract 1 a0.size).toList = ([48] : List UInt8)
      ·rw [if_pos c9] at H
       have c9b0 : ((a0.extract 1 a0.size).toList == ([48] : List UInt8)) = true := beq_iff_eq.mpr c9
       have c9b1 : ((a0.extract 1 a0.size).toList != ([48] : List UInt8)) = false := bne_eq_false_iff_eq.mpr c9
       clear c9
       (first | rw [c9b0] | (simp only [i64_w, i32_w]; rw [c9b0]) | skip)
       obtain rfl := Option.some.inj H
       go_wp2
       go_ret
       exact ⟨by first | rfl | (simp; done) | (simp [*]; done), by repeat (first | exact Drawn0.refl _ | apply Drawn0.step)⟩
      ·rw [if_neg c9] at H
       have c9b0 : ((a0.extract 1 a0.size).toList == ([48] : List UInt8)) = false := beq_eq_false_iff_ne.mpr c9
       have c9b1 : ((a0.extract 1 a0.size).toList != ([48] : List UInt8)) = true := bne_iff_ne.mpr c9
       (first | rw [c9b0] | (simp only [i64_w, i32_w]; rw [c9b0]) | skip)
       have H' := As_.mk H
       clear H
       go_wp2
       go_meet
       case rel => exact ⟨_, (a0.extract 1 a0.size), (by first | rfl | (simp; done) | (simp [*]; done)), H', ⟨by have := HJ1.out; first | omega | exact Nat.le_refl _⟩, by repeat (first | exact Drawn0.refl _ | apply Drawn0.step)⟩
     ·rw [if_neg c8] at H
      exact absurd H (by simp)
    ·replace c7 := Bool.eq_false_iff.mpr c7
     subst c7
     have H1 : (impl_isNumeral.j1 kj1 a0) = some r := by rw [if_neg (show ¬ (false = true) by decide)] at H; exact H
     clear H
     have H := H1
     clear H1
     have H' := As_.mk H
     clear H
     go_wp2
     go_meet
     case rel => exact ⟨_, (a0), (by first | rfl | (simp; done) | (simp [*]; done)), H', ⟨by have := HJ1.out; first | omega | exact Nat.le_refl _⟩, by repeat (first | exact Drawn0.refl _ | apply Drawn0.step)⟩
   case rest =>
    clear HC6
    try clear c1
    try clear c2
    try clear p2
    try clear c3
    try clear c3b0
    try clear c3b1
    try clear c4
    try clear c4b0
    try clear c4b1
    try clear p5
    try clear q5
    try clear hx5
    try clear qi5
    try clear c7
    try clear c8
    try clear c8b0
    try clear c8b1
    try clear c9
    try clear c9b0
    try clear c9b1
    try clear p2
    try clear p5
    try clear q5
    obtain ⟨kq, x0_5, rfl, HA, HJ5, ⟨mc5, rfl⟩⟩ := hcut
    cases kq with
    | zero => exact absurd HA.out (by simp [impl_isNumeral.j1])
    | succ kj5 =>
     have H := HA.out
     clear HA
     simp only [impl_isNumeral.j1] at H
     have HC10 := As_.mk H
     clear H
     go_upto_region 5 with (fail)
     go_cut [27] (fun v27 wc => ∃ (kq : Nat) (x27_9 : Bool), v27 = .bool x27_9 ∧ As_ (impl_isNumeral.j2 kq x0_5 x27_9 = some r) ∧ As_ (kq ≤ kj5) ∧ Drawn0 w wc)
     case first =>
      have H := HC10.out
      clear HC10
      by_cases c11 : x0_5.toList = ([] : List UInt8)
      ·rw [if_pos c11] at H
       have c11b0 : (x0_5.toList == ([] : List UInt8)) = true := beq_iff_eq.mpr c11
       have c11b1 : (x0_5.toList != ([] : List UInt8)) = false := bne_eq_false_iff_eq.mpr c11
       clear c11
       (first | rw [c11b0] | (simp only [i64_w, i32_w]; rw [c11b0]) | skip)
       have H' := As_.mk H
       clear H
       go_wp2
       go_meet
       case rel => exact ⟨_, (true), (by first | rfl | (simp; done) | (simp [*]; done)), H', ⟨by have := HJ1.out; have := HJ5.out; first | omega | exact Nat.le_refl _⟩, by repeat (first | exact Drawn0.refl _ | apply Drawn0.step)⟩
      ·rw [if_neg c11] at H
       have c11b0 : (x0_5.toList == ([] : List UInt8)) = false := beq_eq_false_iff_ne.mpr c11
       have c11b1 : (x0_5.toList != ([] : List UInt8)) = true := bne_iff_ne.mpr c11
       (first | rw [c11b0] | (simp only [i64_w, i32_w]; rw [c11b0]) | skip)
       by_cases c12 : 0 < (x0_5.size : Int)
       ·rw [if_pos c12] at H
        have c12b0 : decide (0 < (x0_5.size : Int)) = true := decide_eq_true c12
        have c12b1 : decide (0 < x0_5.size) = true := decide_eq_true (by omega)
        clear c12
        by_cases c14 : (bt x0_5 0) = 48
        ·rw [if_pos c14] at H
         have c14b0 : ((bt x0_5 0) == 48) = true := beq_iff_eq.mpr c14
         have c14b1 : ((bt x0_5 0) != 48) = false := bne_eq_false_iff_eq.mpr c14
         clear c14
         have H' := As_.mk H
         clear H
         have p13 : 0 ≤ (0 : Int) := (by omega)
         have q13 : 0 < x0_5.size := (by have : (0 : Int) < (x0_5.size : Int) := of_decide_eq_true (by first | (with_reducible assumption) | assumption); omega)
         have hx13 : ∀ h : 0 < x0_5.size, ((x0_5[0]'h).toNat : Int) = bt x0_5 0 := bt_at x0_5 0
         clear p13
         have qi13 : (0 < (x0_5.size : Int)) = True := eq_true (of_decide_eq_true (by first | (with_reducible assumption) | assumption))
         replace q13 := eq_true q13
         go_wp2
         go_meet
         case rel => exact ⟨_, (decide ((x0_5.size : Int) > 1)), (by first | rfl | (simp; done) | (simp [*]; done)), H', ⟨by have := HJ1.out; have := HJ5.out; first | omega | exact Nat.le_refl _⟩, by repeat (first | exact Drawn0.refl _ | apply Drawn0.step)⟩
        ·rw [if_neg c14] at H
         have c14b0 : ((bt x0_5 0) == 48) = false := beq_eq_false_iff_ne.mpr c14
         have c14b1 : ((bt x0_5 0) != 48) = true := bne_iff_ne.mpr c14
         have H' := As_.mk H
         clear H
         have p13 : 0 ≤ (0 : Int) := (by omega)
         have q13 : 0 < x0_5.size := (by have : (0 : Int) < (x0_5.size : Int) := of_decide_eq_true (by first | (with_reducible assumption) | assumption); omega)
         have hx13 : ∀ h : 0 < x0_5.size, ((x0_5[0]'h).toNat : Int) = bt x0_5 0 := bt_at x0_5 0
         clear p13
         have qi13 : (0 < (x0_5.size : Int)) = True := eq_true (of_decide_eq_true (by first | (with_reducible assumption) | assumption))
         replace q13 := eq_true q13
         go_wp2
         go_meet
         case rel => exact ⟨_, (false), (by first | rfl | (simp; done) | (simp [*]; done)), H', ⟨by have := HJ1.out; have := HJ5.out; first | omega | exact Nat.le_refl _⟩, by repeat (first | exact Drawn0.refl _ | apply Drawn0.step)⟩
       ·rw [if_neg c12] at H
        exact absurd H (by simp)
     case rest =>
      clear HC10
      try clear c1
      try clear p1
      try clear q1
      try clear hx1
      try clear qi1
      try clear c2
      try clear p2
      try clear c3
      try clear c3b0
      try clear c3b1
      try clear c4
      try clear c4b0
      try clear c4b1
      try clear c5
      try clear p5
      try clear q5
      try clear hx5
      try clear qi5
      try clear c7
      try clear c8
      try clear c8b0
      try clear c8b1
      try clear c9
      try clear c9b0
      try clear c9b1
      try clear c11
      try clear c11b0
      try clear c11b1
      try clear c12
      try clear c12b0
      try clear c12b1
      try clear p13
      try clear q13
      try clear hx13
      try clear qi13
      try clear c14
      try clear c14b0
      try clear c14b1
      try clear p13
      try clear p2
      try clear p5
      try clear q13
      try clear q5
      obtain ⟨kq, x27_9, rfl, HA, HJ9, ⟨mc9, rfl⟩⟩ := hcut
      cases kq with
      | zero => exact absurd HA.out (by simp [impl_isNumeral.j2])
      | succ kj9 =>
       have H := HA.out
       clear HA
       simp only [impl_isNumeral.j2] at H
       by_cases c15 : x27_9 = true
       ·subst c15
        have H1 : (some false) = some r := by rw [if_pos rfl] at H; exact H
        clear H
        have H := H1
        clear H1
        obtain rfl := Option.some.inj H
        go_wp2
        go_ret
        exact ⟨by first | rfl | (simp; done) | (simp [*]; done), by repeat (first | exact Drawn0.refl _ | apply Drawn0.step)⟩
       ·replace c15 := Bool.eq_false_iff.mpr c15
        subst c15
        have H1 : (impl_isNumeral.l0 kj9 x0_5 (x0_5.size : Int) 0) = some r := by rw [if_neg (show ¬ (false = true) by decide)] at H; exact H
        clear H
        have H := H1
        clear H1
        have H' := As_.mk H
        clear H
        go_wp2
        go_loopg [30] kj9 (fun kq v30 w' => ∃ (x30_4 : Int), v30 = .int .i64 x30_4 ∧ As_ (impl_isNumeral.l0 kq x0_5 (x0_5.size : Int) x30_4 = some r) ∧ As_ (kq ≤ kj9) ∧ Drawn0 w w')
        case atStart => exact ⟨(0), (by first | rfl | (simp; done) | (simp [*]; done)), H', ⟨Nat.le_refl _⟩, by repeat (first | exact Drawn0.refl _ | apply Drawn0.step)⟩
        case round =>
         clear H'
         try clear c1
         try clear p1
         try clear q1
         try clear hx1
         try clear qi1
         try clear c2
         try clear p2
         try clear c3
         try clear c3b0
         try clear c3b1
         try clear c4
         try clear c4b0
         try clear c4b1
         try clear c5
         try clear p5
         try clear q5
         try clear hx5
         try clear qi5
         try clear c7
         try clear c8
         try clear c8b0
         try clear c8b1
         try clear c9
         try clear c9b0
         try clear c9b1
         try clear c11
         try clear c11b0
         try clear c11b1
         try clear c12
         try clear c12b0
         try clear c12b1
         try clear p13
         try clear q13
         try clear hx13
         try clear qi13
         try clear c14
         try clear c14b0
         try clear c14b1
         try clear c15
         try clear p1
         try clear p13
         try clear p2
         try clear p5
         try clear q1
         try clear q13
         try clear q5
         obtain ⟨x30_4, rfl, HA, HK4, ⟨m4, rfl⟩⟩ := hrel
         cases gk with
         | zero => exact absurd HA.out (by simp [impl_isNumeral.l0])
         | succ k4 =>
          have H := HA.out
          clear HA
          simp only [impl_isNumeral.l0] at H
          by_cases c16 : x30_4 < (x0_5.size : Int)
          ·rw [if_pos c16] at H
           have c16b0 : decide (x30_4 < (x0_5.size : Int)) = true := decide_eq_true c16
           clear c16
           by_cases c17 : 0 ≤ x30_4
           ·rw [if_pos c17] at H
            have c17b0 : decide (0 ≤ x30_4) = true := decide_eq_true c17
            clear c17
            by_cases c18 : x30_4 < (x0_5.size : Int)
            ·rw [if_pos c18] at H
             have c18b0 : decide (x30_4 < (x0_5.size : Int)) = true := decide_eq_true c18
             clear c18
             by_cases c20 : (bt x0_5 x30_4) < 48
             ·rw [if_pos c20] at H
              have c20b0 : decide ((bt x0_5 x30_4) < 48) = true := decide_eq_true c20
              clear c20
              obtain rfl := Option.some.inj H
              have p19 : 0 ≤ (x30_4 : Int) := of_decide_eq_true (by first | (with_reducible assumption) | assumption)
              have q19 : x30_4 < (x0_5.size : Int) := of_decide_eq_true (by first | (with_reducible assumption) | assumption)
              have hx19 := bt_at x0_5 x30_4
              replace p19 := eq_true p19
              replace q19 := eq_true q19
              go_wp2
              go_ret
              exact ⟨by first | rfl | (simp; done) | (simp [*]; done), by repeat (first | exact Drawn0.refl _ | apply Drawn0.step)⟩
             ·rw [if_neg c20] at H
              have c20b0 : decide ((bt x0_5 x30_4) < 48) = false := decide_eq_false c20
              clear c20
              by_cases c22 : (bt x0_5 x30_4) > 57
              ·rw [if_pos c22] at H
               have c22b0 : decide (57 < (bt x0_5 x30_4)) = true := decide_eq_true c22
               clear c22
               obtain rfl := Option.some.inj H
               have p19 : 0 ≤ (x30_4 : Int) := of_decide_eq_true (by first | (with_reducible assumption) | assumption)
               have q19 : x30_4 < (x0_5.size : Int) := of_decide_eq_true (by first | (with_reducible assumption) | assumption)
               have hx19 := bt_at x0_5 x30_4
               replace p19 := eq_true p19
               replace q19 := eq_true q19
               have p21 : 0 ≤ (x30_4 : Int) := of_decide_eq_true (by first | (with_reducible assumption) | assumption)
               have q21 : x30_4 < (x0_5.size : Int) := of_decide_eq_true (by first | (with_reducible assumption) | assumption)
               have hx21 := bt_at x0_5 x30_4
               replace p21 := eq_true p21
               replace q21 := eq_true q21
               go_wp2
               go_ret
               exact ⟨by first | rfl | (simp; done) | (simp [*]; done), by repeat (first | exact Drawn0.refl _ | apply Drawn0.step)⟩
              ·rw [if_neg c22] at H
               have c22b0 : decide (57 < (bt x0_5 x30_4)) = false := decide_eq_false c22
               clear c22
               have H' := As_.mk H
               clear H
               have p19 : 0 ≤ (x30_4 : Int) := of_decide_eq_true (by first | (with_reducible assumption) | assumption)
               have q19 : x30_4 < (x0_5.size : Int) := of_decide_eq_true (by first | (with_reducible assumption) | assumption)
               have hx19 := bt_at x0_5 x30_4
               replace p19 := eq_true p19
               replace q19 := eq_true q19
               have p21 : 0 ≤ (x30_4 : Int) := of_decide_eq_true (by first | (with_reducible assumption) | assumption)
               have q21 : x30_4 < (x0_5.size : Int) := of_decide_eq_true (by first | (with_reducible assumption) | assumption)
               have hx21 := bt_at x0_5 x30_4
               replace p21 := eq_true p21
               replace q21 := eq_true q21
               go_wp2
               go_roundg k4
               case measure => have := HJ1.out; have := HJ5.out; have := HJ9.out; have := HK4.out; omega
               case rel => exact ⟨(wrap64 (x30_4 + 1)), (by first | rfl | (simp; done) | (simp [*]; done)), H', ⟨by have := HJ1.out; have := HJ5.out; have := HJ9.out; have := HK4.out; omega⟩, by repeat (first | exact Drawn0.refl _ | apply Drawn0.step)⟩
            ·rw [if_neg c18] at H
             exact absurd H (by simp)
           ·rw [if_neg c17] at H
            exact absurd H (by simp)
          ·rw [if_neg c16] at H
           have c16b0 : decide (x30_4 < (x0_5.size : Int)) = false := decide_eq_false c16
           clear c16
           obtain rfl := Option.some.inj H
           go_wp2
           go_ret
           exact ⟨by first | rfl | (simp; done) | (simp [*]; done), by repeat (first | exact Drawn0.refl _ | apply Drawn0.step)⟩
end Go.Proofs.YtlogcnglmdpejaaGreatDoor.Pq
end
