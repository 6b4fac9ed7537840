/- Part 10 of the proof of the card of FnExactV: walks of the functions and plain facts on them. -/
import Derived.Test.YtlogcnglmdpejaaGreatDoorMV9
import Derived.Test.YtlogcnglmdpejaaGreatDoorMV3
section
namespace Go.Proofs.YtlogcnglmdpejaaGreatDoor.Hd
open Go.RowKit Go.Proofs.YtlogcnglmdpejaaGreatDoorW.PrintWords Go.Proofs.YtlogcnglmdpejaaGreatDoorW.PrintLast Go.Proofs.YtlogcnglmdpejaaGreatDoorW.PrintMore Go.Proofs.YtlogcnglmdpejaaGreatDoor.Pq
attribute [local go_sem] max2_int min2_int max_two min_two max_three min_three max_four min_four
set_option linter.unusedVariables false
set_option linter.unusedSimpArgs false
def adig (s : ByteArray) : Nat → Nat → Bool
  | 0, _ => true
  | n + 1, i => if bt s i < 48 then false else if bt s i > 57 then false else adig s n (i + 1)
theorem adig_spec (s : ByteArray) : ∀ n i : Nat, adig s n i = true → ∀ j : Nat, i ≤ j → j < i + n → 48 ≤ bt s j ∧ bt s j ≤ 57
  | 0, _, _, j, h1, h2 => by omega
  | n + 1, i, h, j, h1, h2 => by
    unfold adig at h
    split at h
    · cases h
    · split at h
      · cases h
      · rcases Nat.eq_or_lt_of_le h1 with rfl | h3
        · omega
        · exact adig_spec s n (i + 1) h j h3 (by omega)
def numB (t : ByteArray) : Bool := if t.size = 0 then false else if bt t 0 = 48 ∧ 1 < t.size then false else adig t t.size 0
def isNum (s : ByteArray) : Bool :=
  if 0 < s.size then (if bt s 0 = 45 then (if (s.extract 1 s.size).toList = [48] then false else numB (s.extract 1 s.size)) else numB s) else false
theorem isNumeral_l0 (s : ByteArray) (hs : s.size ≤ 4611686018427387904) : ∀ n i k : Nat, s.size - i = n → i ≤ s.size → n < k → impl_isNumeral.l0 k s (s.size : Int) (i : Int) = some (adig s n i) := by
  intro n
  induction n with
  | zero =>
    intro i k hn hi hk
    obtain ⟨k, rfl⟩ : ∃ m, k = m + 1 := ⟨k - 1, by omega⟩
    rw [impl_isNumeral.l0, if_neg (by omega)]
    rfl
  | succ n ih =>
    intro i k hn hi hk
    obtain ⟨k, rfl⟩ : ∃ m, k = m + 1 := ⟨k - 1, by omega⟩
    have hw : wrap64 ((i : Int) + 1) = ((i + 1 : Nat) : Int) := by rw [w64 (by omega) (by omega)]; omega
    rw [impl_isNumeral.l0, if_pos (by omega), if_pos (by omega), if_pos (by omega), hw, ih (i + 1) k (by omega) (by omega) (by omega), adig]
    split <;> simp [*]
    split <;> simp [*]
theorem isNumeral_j1 (s : ByteArray) (hs : s.size ≤ 4611686018427387904) (k : Nat) (hk : s.size + 3 < k) : impl_isNumeral.j1 k s = some (numB s) := by
  obtain ⟨k, rfl⟩ : ∃ m, k = m + 2 := ⟨k - 2, by omega⟩
  have hl := isNumeral_l0 s hs s.size 0 k (by omega) (by omega) (by omega)
  rw [show ((0 : Nat) : Int) = 0 from rfl] at hl
  unfold numB
  rw [impl_isNumeral.j1]
  rcases Nat.eq_zero_or_pos s.size with h0 | h0
  · have he : s.toList = [] := by
      rw [Go.ByteArray.toList_eq]
      have := data_length s
      exact List.length_eq_zero_iff.1 (by omega)
    rw [if_pos he, if_pos h0, impl_isNumeral.j2, if_pos rfl]
  · have he : s.toList ≠ [] := fun h => by have := bytes_pos h0; rw [h] at this; cases this
    rw [if_neg he, if_pos (by omega), if_neg (show ¬ s.size = 0 by omega)]
    by_cases h48 : bt s 0 = 48
    · rw [if_pos h48]
      by_cases h1 : 1 < s.size
      · rw [if_pos ⟨h48, h1⟩, impl_isNumeral.j2, if_pos (decide_eq_true (by omega))]
      · rw [if_neg (fun h => h1 h.2), impl_isNumeral.j2, if_neg (by simp; omega), hl]
    · rw [if_neg h48, if_neg (fun h => h48 h.1), impl_isNumeral.j2, if_neg (by decide), hl]
theorem isNumeral_f (s : ByteArray) (hs : s.size ≤ 4611686018427387904) : impl_isNumeral.f (s.size + 10) s = some (isNum s) := by
  unfold impl_isNumeral.f isNum
  rcases Nat.eq_zero_or_pos s.size with h0 | h0
  · rw [if_neg (by omega), if_neg (by omega), h0]
    rw [impl_isNumeral.j0, if_neg (by decide), isNumeral_j1 s hs _ (by omega)]
    unfold numB
    rw [if_pos h0]
  · rw [if_pos (by omega), if_pos (by omega), if_pos h0, impl_isNumeral.j0]
    have hsz : (s.extract 1 s.size).size ≤ s.size := by simp
    by_cases h45 : bt s 0 = 45
    · rw [if_pos (by simp [h45]), if_pos (by omega), if_pos h45]
      split
      · rfl
      · exact isNumeral_j1 _ (by omega) _ (by omega)
    · rw [if_neg (by simp [h45]), if_neg h45]
      exact isNumeral_j1 _ hs _ (by omega)
theorem isNumeral_calls (s : ByteArray) (hs : s.size ≤ 4611686018427387904) (w : World) : Calls Tryz.prog 221 #[.string s] w fun e w' => e = .returned (.bool (isNum s)) ∧ Below w.heap.size w w' := by
  refine (impl_isNumeral.calls _ s _ w (isNumeral_f s hs)).mono ?_
  rintro e w' ⟨rfl, hd⟩
  exact ⟨rfl, hd.below⟩
def numZ (s : ByteArray) : Int := if bt s 0 = 45 then -((dec (s.extract 1 s.size) (s.extract 1 s.size).size : Nat) : Int) else ((dec s s.size : Nat) : Int)
theorem numB_of {t : ByteArray} (h : numB t = true) : 0 < t.size ∧ ∀ i : Nat, i < t.size → 48 ≤ bt t i ∧ bt t i ≤ 57 := by
  unfold numB at h
  split at h
  · cases h
  · split at h
    · cases h
    · exact ⟨by omega, fun i hi => adig_spec t t.size 0 h i (by omega) (by omega)⟩
theorem isNum_of {s : ByteArray} (h : isNum s = true) : 0 < s.size ∧ (bt s 0 = 45 → numB (s.extract 1 s.size) = true) ∧ (bt s 0 ≠ 45 → numB s = true) := by
  unfold isNum at h
  split at h
  · rename_i h0
    refine ⟨h0, fun h45 => ?_, fun h45 => ?_⟩
    · rw [if_pos h45] at h
      split at h
      · cases h
      · exact h
    · rw [if_neg h45] at h
      exact h
  · cases h
theorem numZ_len {s : ByteArray} (h : isNum s = true) (hl : s.size ≤ 800) : (D (numZ s).natAbs).length ≤ 800 := by
  obtain ⟨h0, h1, h2⟩ := isNum_of h
  unfold numZ
  by_cases h45 : bt s 0 = 45
  · rw [if_pos h45, Int.natAbs_neg, Int.natAbs_natCast]
    obtain ⟨_, hd⟩ := numB_of (h1 h45)
    exact Nat.le_trans (dec_len hd) (by simp; omega)
  · rw [if_neg h45, Int.natAbs_natCast]
    obtain ⟨_, hd⟩ := numB_of (h2 h45)
    exact Nat.le_trans (dec_len hd) hl
theorem SetString_calls {w : World} {gz : Nat} {s : ByteArray} (hz : Ic w gz) (h : isNum s = true) (hl : s.size ≤ 800) :
    Calls Tryz.prog 254 #[.pointer (some ⟨gz, 0, none⟩), .string s, .int .i64 10] w fun e w' => e = .returned (.tuple #[.pointer (some ⟨gz, 0, none⟩), .bool true]) ∧ Big w' gz (numZ s) ∧ w.grownBy w' (some gz) := by
  obtain ⟨h0, h1, h2⟩ := isNum_of h
  unfold numZ
  by_cases h45 : bt s 0 = 45
  · rw [if_pos h45]
    obtain ⟨ht, hd⟩ := numB_of (h1 h45)
    exact SetString_neg hz h0 h45 rfl ht (by simp; omega) hd
  · rw [if_neg h45]
    obtain ⟨ht, hd⟩ := numB_of (h2 h45)
    exact SetString_pos hz ht hl hd
set_option maxHeartbeats 1000000 in
theorem ParseWhole_bad {w : World} {s : ByteArray} (hs : s.size ≤ 4611686018427387904) (h : isNum s = false) :
    Calls Tryz.prog 222 #[.string s] w fun e w' => e = .returned (.tuple #[.agg #[.int .i64 0, .slice none 0 0], .int .i64 6]) ∧ Below w.heap.size w w' := by
  have HS := As_.mk hs
  have H := As_.mk h
  clear hs h
  go_enter Tryz.func222, Tryz.ntmps222
  go_wp2_with fail
  refine (isNumeral_calls s HS.out _).mono ?_
  rintro e w1 ⟨rfl, hb⟩
  rw [H.out]
  have hblk := (hb.block w.heap.size (by simp)).trans (heap_alloc_new w _)
  have k0 := kc_ hblk 0
  have k1 := kc_ hblk 1
  have f0 := blk_free hblk 0
  have f1 := blk_free hblk 1
  simp only [List.getElem?_toArray, List.getElem?_cons_zero, List.getElem?_cons_succ] at k0 k1
  have HBK := As_.mk hblk
  have HBB := As_.mk (Below.trans (ba_ (Below.refl w.heap.size w) (.cells #[.int .i64 0, .slice none 0 0] 54)) (Below.mono hb (by simp)))
  generalize hNN : w.heap.size = N at k0 k1 f0 f1 HBK HBB ⊢
  have HN := As_.mk hNN
  clear hb hblk hNN
  go_wp2_with fail
  have hend : ((w1.setCell ⟨N, 0, none⟩ (.int .i64 0)).setCell ⟨N, 1, none⟩ (.slice none 0 0)).heap[N]? = some (.cells #[.int .i64 0, .slice none 0 0] 54 (0, 0)) := (blk_set (blk_set HBK.out 0 _) 1 _).trans rfl
  refine bodyPost_ret (results_agg rfl _ _ N 54 #[.int .i64 0, .slice none 0 0] (0, 0) _ rfl hend Tryz.underlying54 rfl (by kernel_rfl)) rfl ?_
  have hb3 : Below w.heap.size w w1 := HN.out ▸ HBB.out
  exact ⟨rfl, bs_ (bs_ hb3 (Nat.le_of_eq HN.out)) (Nat.le_of_eq HN.out)⟩
set_option maxHeartbeats 1000000 in
theorem ParseWhole_long {w : World} {s : ByteArray} (hs : s.size ≤ 4611686018427387904) (h : isNum s = true) (hl : 800 < s.size) :
    Calls Tryz.prog 222 #[.string s] w fun e w' => e = .returned (.tuple #[.agg #[.int .i64 0, .slice none 0 0], .int .i64 3]) ∧ Below w.heap.size w w' := by
  have HS := As_.mk hs
  have H := As_.mk h
  have hl2 : (800 : Int) < (s.size : Int) := by omega
  clear hs h hl
  have hl3 : decide ((800 : Int) < (s.size : Int)) = true := decide_eq_true hl2
  go_enter Tryz.func222, Tryz.ntmps222
  go_wp2_with fail
  refine (isNumeral_calls s HS.out _).mono ?_
  rintro e w1 ⟨rfl, hb⟩
  rw [H.out]
  have hblk := (hb.block w.heap.size (by simp)).trans (heap_alloc_new w _)
  have k0 := kc_ hblk 0
  have k1 := kc_ hblk 1
  have f0 := blk_free hblk 0
  have f1 := blk_free hblk 1
  simp only [List.getElem?_toArray, List.getElem?_cons_zero, List.getElem?_cons_succ] at k0 k1
  have HBK := As_.mk hblk
  have HBB := As_.mk (Below.trans (ba_ (Below.refl w.heap.size w) (.cells #[.int .i64 0, .slice none 0 0] 54)) (Below.mono hb (by simp)))
  generalize hNN : w.heap.size = N at k0 k1 f0 f1 HBK HBB ⊢
  have HN := As_.mk hNN
  clear hb hblk hNN
  go_wp2_with fail
  have hend : ((w1.setCell ⟨N, 0, none⟩ (.int .i64 0)).setCell ⟨N, 1, none⟩ (.slice none 0 0)).heap[N]? = some (.cells #[.int .i64 0, .slice none 0 0] 54 (0, 0)) := (blk_set (blk_set HBK.out 0 _) 1 _).trans rfl
  refine bodyPost_ret (results_agg rfl _ _ N 54 #[.int .i64 0, .slice none 0 0] (0, 0) _ rfl hend Tryz.underlying54 rfl (by kernel_rfl)) rfl ?_
  have hb3 : Below w.heap.size w w1 := HN.out ▸ HBB.out
  exact ⟨rfl, bs_ (bs_ hb3 (Nat.le_of_eq HN.out)) (Nat.le_of_eq HN.out)⟩
set_option maxHeartbeats 2000000 in
theorem ParseWhole_near {w : World} {s : ByteArray} (h : isNum s = true) (hl : s.size ≤ 800) (hb : bits (numZ s).natAbs ≤ 2400) :
    Calls Tryz.prog 222 #[.string s] w fun e w' => ∃ v, e = .returned (.tuple #[v, .int .i64 0]) ∧ WholeIs w w' (numZ s) v ∧ Below w.heap.size w w' := by
  have H := As_.mk h
  have HL := As_.mk hl
  have HBT := As_.mk hb
  have hl2 : ¬ (800 : Int) < (s.size : Int) := by omega
  have hl3 : decide ((800 : Int) < (s.size : Int)) = false := decide_eq_false hl2
  have HLEN := As_.mk (numZ_len h hl)
  clear h hl hb
  go_enter Tryz.func222, Tryz.ntmps222
  go_wp2_with fail
  refine (isNumeral_calls s (Nat.le_trans HL.out (by decide)) _).mono ?_
  rintro e w1 ⟨rfl, hb⟩
  rw [H.out]
  have HBK := As_.mk ((hb.block w.heap.size (by simp)).trans (heap_alloc_new w _))
  have HBB := As_.mk (Below.trans (ba_ (Below.refl w.heap.size w) (.cells #[.int .i64 0, .slice none 0 0] 54)) (Below.mono hb (by simp)))
  clear hb
  generalize hNN : w.heap.size = N at HBK HBB ⊢
  have HN := As_.mk hNN
  clear hNN
  go_wp2_with fail
  refine (SetString_calls (new_ic w1) H.out HL.out).mono ?_
  rintro e w2 ⟨rfl, hbig, hg⟩
  have HBG := As_.mk hbig
  have HB2 := As_.mk (show Below w1.heap.size w1 w2 from (ba_ (Below.refl _ _) _).trans (below_of_grown hg (Nat.le_refl _) (by simp)))
  clear hbig hg
  go_wp2_with fail
  refine (whole_near HBG.out (Nat.le_trans HLEN.out (by decide)) HBT.out).mono ?_
  rintro e w3 ⟨v, rfl, hw, hb⟩
  obtain ⟨A, c, rfl, hR⟩ := hw
  have hlt := heap_lt HBK.out
  have hblk := (hb.block N (Nat.lt_of_lt_of_le hlt HB2.out.size)).trans ((HB2.out.block N hlt).trans HBK.out)
  have HBK3 := As_.mk hblk
  have k0 := kc_ hblk 0
  have k1 := kc_ hblk 1
  have f0 := blk_free hblk 0
  have f1 := blk_free hblk 1
  simp only [List.getElem?_toArray, List.getElem?_cons_zero, List.getElem?_cons_succ] at k0 k1
  have hbw : Below w.heap.size w w1 := HN.out ▸ HBB.out
  have HB3 := As_.mk ((hbw.trans (HB2.out.mono hbw.size)).trans (hb.mono (Nat.le_trans hbw.size HB2.out.size)))
  have HR := As_.mk (Kd.R_mono (ok' := fun k => N < k) (Kd.R_bound hR) (fun k hk => by have := hk.2.1; have := HB2.out.size; omega))
  have HLE := As_.mk (show w.heap.size ≤ w2.heap.size from Nat.le_trans hbw.size HB2.out.size)
  clear hR hb hblk hbw hlt
  generalize hZ : numZ s = z at *
  obtain ⟨sg0, hs⟩ : ∃ x, cm z 0 = x := ⟨_, rfl⟩
  obtain ⟨E0, hE⟩ : ∃ E0, E z.natAbs = E0 := ⟨_, rfl⟩
  rw [hE] at HR
  have HS := As_.mk hs
  have HE := As_.mk hE
  rw [hs, hE]
  clear hs hE
  go_wp2_with fail
  have hend : ((w3.setCell ⟨N, 0, none⟩ (.int .i64 sg0)).setCell ⟨N, 1, none⟩ (.slice A E0.length c)).heap[N]? = some (.cells #[.int .i64 sg0, .slice A E0.length c] 54 (0, 0)) := (blk_set (blk_set HBK3.out 0 _) 1 _).trans rfl
  refine bodyPost_ret (results_agg rfl _ _ N 54 #[.int .i64 sg0, .slice A E0.length c] (0, 0) _ rfl hend Tryz.underlying54 rfl (by kernel_rfl)) rfl ?_
  have hg : w3.grownBy ((w3.setCell ⟨N, 0, none⟩ (.int .i64 sg0)).setCell ⟨N, 1, none⟩ (.slice A E0.length c)) (some N) := grown_set (grown_set (grown_below (Below.refl _ _) N) _ _) _ _
  refine ⟨_, rfl, ?_, bs_ (bs_ HB3.out (Nat.le_of_eq HN.out)) (Nat.le_of_eq HN.out)⟩
  rw [hZ]
  refine ⟨A, c, by rw [HS.out, HE.out], ?_⟩
  rw [HE.out]
  exact Kd.R_mono (Kd.R_grown (Kd.R_lower HR.out HLE.out) hg (fun k hk he => by injection he with he; have h2 : N < k := hk; omega)) (fun _ _ => trivial)
set_option maxHeartbeats 2000000 in
theorem ParseWhole_far {w : World} {s : ByteArray} (h : isNum s = true) (hl : s.size ≤ 800) (hb : 2400 < bits (numZ s).natAbs) :
    Calls Tryz.prog 222 #[.string s] w fun e w' => e = .returned (.tuple #[.agg #[.int .i64 0, .slice none 0 0], .int .i64 3]) ∧ Below w.heap.size w w' := by
  have H := As_.mk h
  have HL := As_.mk hl
  have HBT := As_.mk hb
  have hl2 : ¬ (800 : Int) < (s.size : Int) := by omega
  have hl3 : decide ((800 : Int) < (s.size : Int)) = false := decide_eq_false hl2
  have HLEN := As_.mk (numZ_len h hl)
  clear h hl hb
  go_enter Tryz.func222, Tryz.ntmps222
  go_wp2_with fail
  refine (isNumeral_calls s (Nat.le_trans HL.out (by decide)) _).mono ?_
  rintro e w1 ⟨rfl, hb⟩
  rw [H.out]
  have HBK := As_.mk ((hb.block w.heap.size (by simp)).trans (heap_alloc_new w _))
  have HBB := As_.mk (Below.trans (ba_ (Below.refl w.heap.size w) (.cells #[.int .i64 0, .slice none 0 0] 54)) (Below.mono hb (by simp)))
  clear hb
  generalize hNN : w.heap.size = N at HBK HBB ⊢
  have HN := As_.mk hNN
  clear hNN
  go_wp2_with fail
  refine (SetString_calls (new_ic w1) H.out HL.out).mono ?_
  rintro e w2 ⟨rfl, hbig, hg⟩
  have HBG := As_.mk hbig
  have HB2 := As_.mk (show Below w1.heap.size w1 w2 from (ba_ (Below.refl _ _) _).trans (below_of_grown hg (Nat.le_refl _) (by simp)))
  clear hbig hg
  go_wp2_with fail
  refine (whole_far HBG.out (Nat.le_trans HLEN.out (by decide)) HBT.out).mono ?_
  rintro e w3 ⟨rfl, hb⟩
  have hlt := heap_lt HBK.out
  have hblk := (hb.block N (Nat.lt_of_lt_of_le hlt HB2.out.size)).trans ((HB2.out.block N hlt).trans HBK.out)
  have HBK3 := As_.mk hblk
  have k0 := kc_ hblk 0
  have k1 := kc_ hblk 1
  have f0 := blk_free hblk 0
  have f1 := blk_free hblk 1
  simp only [List.getElem?_toArray, List.getElem?_cons_zero, List.getElem?_cons_succ] at k0 k1
  have hbw : Below w.heap.size w w1 := HN.out ▸ HBB.out
  have HB3 := As_.mk ((hbw.trans (HB2.out.mono hbw.size)).trans (hb.mono (Nat.le_trans hbw.size HB2.out.size)))
  clear hb hblk hbw hlt
  go_wp2_with fail
  have hend : ((w3.setCell ⟨N, 0, none⟩ (.int .i64 0)).setCell ⟨N, 1, none⟩ (.slice none 0 0)).heap[N]? = some (.cells #[.int .i64 0, .slice none 0 0] 54 (0, 0)) := (blk_set (blk_set HBK3.out 0 _) 1 _).trans rfl
  refine bodyPost_ret (results_agg rfl _ _ N 54 #[.int .i64 0, .slice none 0 0] (0, 0) _ rfl hend Tryz.underlying54 rfl (by kernel_rfl)) rfl ?_
  exact ⟨rfl, bs_ (bs_ HB3.out (Nat.le_of_eq HN.out)) (Nat.le_of_eq HN.out)⟩
end Go.Proofs.YtlogcnglmdpejaaGreatDoor.Hd
end
section
namespace Go.Proofs.YtlogcnglmdpejaaGreatDoor.Pq
open Go.RowKit Go.Proofs.YtlogcnglmdpejaaGreatDoorW.PrintWords Go.Proofs.YtlogcnglmdpejaaGreatDoorW.PrintLast Go.Proofs.YtlogcnglmdpejaaGreatDoorW.PrintMore
attribute [local go_sem] max2_int min2_int max_two min_two max_three min_three max_four min_four
set_option linter.unusedVariables false
set_option linter.unusedSimpArgs false
def spec_l01In.f (a0 : Int) (a1 : Int) (a2 : Int) : Option (Bool) := if a0 ≥ a1 then (some (decide (a0 ≤ a2))) else (some false)
set_option maxHeartbeats 8000000 in
set_option maxRecDepth 100000 in
theorem spec_l01In.calls (a0 : Int) (a1 : Int) (a2 : Int) (r : Bool) (w : World) (h : spec_l01In.f a0 a1 a2 = some r) :
  Calls Tryz.prog 114 #[.int .i64 a0, .int .i64 a1, .int .i64 a2] w fun e w' => e = .returned (.bool r) ∧ Drawn0 w w' := by
 have H : (if a0 ≥ a1 then (some (decide (a0 ≤ a2))) else (some false)) = some r := h
 clear h
 by_cases c4 : a0 ≥ a1
 ·rw [if_pos c4] at H
  have c4b0 : decide (a1 ≤ a0) = true := decide_eq_true c4
  clear c4
  obtain rfl := Option.some.inj H
  go_enter Tryz.func114, Tryz.ntmps114
  go_wp2
  go_ret
  exact ⟨by first | rfl | (simp; done) | (simp [*]; done), by repeat (first | exact Drawn0.refl _ | apply Drawn0.step)⟩
 ·rw [if_neg c4] at H
  have c4b0 : decide (a1 ≤ a0) = false := decide_eq_false c4
  clear c4
  obtain rfl := Option.some.inj H
  go_enter Tryz.func114, Tryz.ntmps114
  go_wp2
  go_ret
  exact ⟨by first | rfl | (simp; done) | (simp [*]; done), by repeat (first | exact Drawn0.refl _ | apply Drawn0.step)⟩
def spec_l02Is.l0 : Nat → Int → Int → Int → List Int → Option (Bool)
 | 0, _, _, _, _ => none
 | k + 1, x3, x4, x105000, x105001 => if x4 < x3 then (if 0 ≤ x4 then (if x4 < (x105001.length : Int) then ((spec_l01In.f (rd x105001 x4) 0 16777215).bind fun t106 => (if t106 = true then (spec_l02Is.l0 k x3 (wrap64 (x4 + 1)) x105000 x105001) else (some false))) else (none)) else (none)) else (if x3 = 0 then (some (x105000 == 0)) else (if x3 ≤ 100 then (if 0 ≤ (wrap64 (x3 - 1)) then (if (wrap64 (x3 - 1)) < (x105001.length : Int) then (if (rd x105001 (wrap64 (x3 - 1))) = 0 then (some false) else (if x105000 = 1 then (some true) else (some (x105000 == (-1))))) else (none)) else (none)) else (some false)))
def spec_l02Is.f (k : Nat) (a0_0 : Int) (l0_1 : List Int) : Option (Bool) := spec_l02Is.l0 k (l0_1.length : Int) 0 a0_0 l0_1
set_option maxHeartbeats 8000000 in
set_option maxRecDepth 100000 in
theorem spec_l02Is.calls (k : Nat) (a0_0 : Int) (A0_1 : Option Addr) (c0_1 : Nat) (l0_1 : List Int) (r : Bool) (w : World) (hr0_1 : Kd.C (Kd.int .i64) w A0_1 l0_1.length l0_1) (hc0_1 : l0_1.length ≤ c0_1) (h : spec_l02Is.f k a0_0 l0_1 = some r) :
  Calls Tryz.prog 168 #[.agg #[.int .i64 a0_0, .slice A0_1 l0_1.length c0_1]] w fun e w' => e = .returned (.bool r) ∧ Below w.heap.size w w' := by
 have hu54 := Tryz.underlying54
 have HR0_1 := As_.mk hr0_1
 have HC0_1 := As_.mk hc0_1
 clear hr0_1 hc0_1
 have HB := As_.mk (Below.refl w.heap.size w)
 have H : (spec_l02Is.l0 k (l0_1.length : Int) 0 a0_0 l0_1) = some r := h
 clear h
 have H' := As_.mk H
 clear H
 go_enter Tryz.func168, Tryz.ntmps168
 go_wp2_with (first | ((with_reducible refine gate_dst (N := 1) rfl ?_); refine box_event ?hg (N := 1) ?hd (cs := #[.int .i64 a0_0, .slice A0_1 l0_1.length c0_1]) (t := 54) ?hr ?_; (case hd => rfl); (case hg => rfl); (case hr => first | (go_simp; done) | (go_simp; rfl)); intro gb104 hg w2 hbox hb; have n0_ := As_.mk (bp_ (by repeat (first | (with_reducible first | exact HB.out | apply ba_ | apply pN_ | apply bd_) | exact HB.out)) hb); have n1_ := As_.mk (hbox); have n2_ := As_.mk ((by rw [hg]; exact (bz_ (by repeat (first | (with_reducible first | exact HB.out | apply ba_ | apply pN_ | apply bd_) | exact HB.out))) : w.heap.size ≤ gb104)); have n3_ := As_.mk ((by rw [hg]; exact (bz_ (by repeat (first | (with_reducible first | exact HB.out | apply ba_ | apply pN_ | apply bd_) | exact HB.out))) : w.heap.size ≤ gb104)); clear HB; have HB := n0_; have BK104 := n1_; have GW104 := n2_; have GE104 := n3_; clear n0_ n1_ n2_ n3_; clear hb hbox hg; have hcz3_0 : w2.cell? ⟨gb104, 0, none⟩ = some (.int .i64 a0_0) := (kc_ BK104.out 0).trans rfl; have hcz3_1 : w2.cell? ⟨gb104, 1, none⟩ = some (.slice A0_1 l0_1.length c0_1) := (kc_ BK104.out 1).trans rfl; have hfz3_0 := kf_ BK104.out 0; have hfz3_1 := kf_ BK104.out 1))
 go_loopg [4] k (fun kq v4 w' => ∃ (x4_1 : Int), v4 = .int .i64 x4_1 ∧ As_ (spec_l02Is.l0 kq (l0_1.length : Int) x4_1 a0_0 l0_1 = some r) ∧ As_ (kq ≤ k) ∧ As_ (w'.heap[gb104]? = some (.cells #[.int .i64 a0_0, (.slice A0_1 l0_1.length c0_1)] 54 (0, 0))) ∧ As_ (Below w.heap.size w w'))
 case atStart => exact ⟨(0), (by first | rfl | (simp; done) | (simp [*]; done)), H', ⟨Nat.le_refl _⟩, ⟨by (with_reducible repeat (first | refine kN_ ?_ _ | refine kd_ ?_ | refine ka_ ?_ _)); exact BK104.out⟩, ⟨by repeat (first | (with_reducible first | exact HB.out | apply ba_ | apply pN_ | apply bd_ | refine bs_ ?_ GE104.out) | exact HB.out)⟩⟩
 case round =>
  clear H'
  try clear c1
  try clear p2
  try clear hcz3_0
  try clear hcz3_1
  try clear hfz3_0
  try clear hfz3_1
  obtain ⟨x4_1, rfl, HA, HK1, BK104, HB⟩ := hrel
  cases gk with
  | zero => exact absurd HA.out (by simp [spec_l02Is.l0])
  | succ k1 =>
   have H := HA.out
   clear HA
   simp only [spec_l02Is.l0] at H
   by_cases c4 : x4_1 < (l0_1.length : Int)
   ·rw [if_pos c4] at H
    have c4b0 : decide (x4_1 < (l0_1.length : Int)) = true := decide_eq_true c4
    clear c4
    by_cases c5 : 0 ≤ x4_1
    ·rw [if_pos c5] at H
     have c5b0 : decide (0 ≤ x4_1) = true := decide_eq_true c5
     clear c5
     by_cases c6 : x4_1 < (l0_1.length : Int)
     ·rw [if_pos c6] at H
      have c6b0 : decide (x4_1 < (l0_1.length : Int)) = true := decide_eq_true c6
      clear c6
      replace H := Option.bind_eq_some_iff.mp H
      obtain ⟨t106, A70, H⟩ := H
      replace H : (if t106 = true then (spec_l02Is.l0 k1 (l0_1.length : Int) (wrap64 (x4_1 + 1)) a0_0 l0_1) else (some false)) = some r := H
      have A7 := As_.mk A70
      clear A70
      by_cases c8 : t106 = true
      ·subst c8
       have H1 : (spec_l02Is.l0 k1 (l0_1.length : Int) (wrap64 (x4_1 + 1)) a0_0 l0_1) = some r := by rw [if_pos rfl] at H; exact H
       clear H
       have H := H1
       clear H1
       have H' := As_.mk H
       clear H
       have hcz9_0 : wr.cell? ⟨gb104, 0, none⟩ = some (.int .i64 a0_0) := (kc_ BK104.out 0).trans rfl
       have hcz9_1 : wr.cell? ⟨gb104, 1, none⟩ = some (.slice A0_1 l0_1.length c0_1) := (kc_ BK104.out 1).trans rfl
       have hfz9_0 := kf_ BK104.out 0
       have hfz9_1 := kf_ BK104.out 1
       have p105 : 0 ≤ (x4_1 : Int) := of_decide_eq_true (by first | (with_reducible assumption) | assumption)
       have q105 : x4_1 < (l0_1.length : Int) := of_decide_eq_true (by first | (with_reducible assumption) | assumption)
       obtain ⟨ad105, e105, hx105_0⟩ := Kd.at_int HR0_1.out x4_1 p105 q105
       cases e105
       replace hx105_0 := (HB.out.cell (World.block_lt_of_cell? w _ hx105_0)).trans hx105_0
       replace p105 := eq_true p105
       replace q105 := eq_true q105
       go_wp2_with (first | ((with_reducible refine gate_callee (f := 114) rfl ?_); refine goesL_ (some 18) rfl rfl Tryz.func114 (by kernel_rfl) rfl #[.int .i64 (rd l0_1 x4_1), .int .i64 0, .int .i64 16777215] rfl (by (try simp only [List.map_toArray, List.map_cons, List.map_nil]); first | done | rfl | (simp only [List.length_drop, List.length_take]; rfl)) ?_; (with_reducible refine (spec_l01In.calls (rd l0_1 x4_1) 0 16777215 true _ A7.out).mono ?_); rintro e w' ⟨rfl, ⟨nd, rfl⟩⟩; refine ⟨_, rfl, ?_⟩))
       go_roundg k1
       case measure => have := HK1.out; omega
       case rel => exact ⟨(wrap64 (x4_1 + 1)), (by first | rfl | (simp; done) | (simp [*]; done)), H', ⟨by have := HK1.out; omega⟩, ⟨by (with_reducible repeat (first | refine kN_ ?_ _ | refine kd_ ?_ | refine ka_ ?_ _)); exact BK104.out⟩, ⟨by repeat (first | (with_reducible first | exact HB.out | apply ba_ | apply pN_ | apply bd_ | refine bs_ ?_ GE104.out) | exact HB.out)⟩⟩
      ·replace c8 := Bool.eq_false_iff.mpr c8
       subst c8
       have H1 : (some false) = some r := by rw [if_neg (show ¬ (false = true) by decide)] at H; exact H
       clear H
       have H := H1
       clear H1
       obtain rfl := Option.some.inj H
       have hcz10_0 : wr.cell? ⟨gb104, 0, none⟩ = some (.int .i64 a0_0) := (kc_ BK104.out 0).trans rfl
       have hcz10_1 : wr.cell? ⟨gb104, 1, none⟩ = some (.slice A0_1 l0_1.length c0_1) := (kc_ BK104.out 1).trans rfl
       have hfz10_0 := kf_ BK104.out 0
       have hfz10_1 := kf_ BK104.out 1
       have p105 : 0 ≤ (x4_1 : Int) := of_decide_eq_true (by first | (with_reducible assumption) | assumption)
       have q105 : x4_1 < (l0_1.length : Int) := of_decide_eq_true (by first | (with_reducible assumption) | assumption)
       obtain ⟨ad105, e105, hx105_0⟩ := Kd.at_int HR0_1.out x4_1 p105 q105
       cases e105
       replace hx105_0 := (HB.out.cell (World.block_lt_of_cell? w _ hx105_0)).trans hx105_0
       replace p105 := eq_true p105
       replace q105 := eq_true q105
       go_wp2_with (first | ((with_reducible refine gate_callee (f := 114) rfl ?_); refine goesL_ (some 18) rfl rfl Tryz.func114 (by kernel_rfl) rfl #[.int .i64 (rd l0_1 x4_1), .int .i64 0, .int .i64 16777215] rfl (by (try simp only [List.map_toArray, List.map_cons, List.map_nil]); first | done | rfl | (simp only [List.length_drop, List.length_take]; rfl)) ?_; (with_reducible refine (spec_l01In.calls (rd l0_1 x4_1) 0 16777215 false _ A7.out).mono ?_); rintro e w' ⟨rfl, ⟨nd, rfl⟩⟩; refine ⟨_, rfl, ?_⟩))
       go_ret
       exact ⟨by first | rfl | (simp [eN_, eS_] <;> rfl) | (simp [*, eN_, eS_] <;> rfl), by repeat (first | (with_reducible first | exact HB.out | apply ba_ | apply pN_ | apply bd_ | refine bs_ ?_ GE104.out) | exact HB.out)⟩
     ·rw [if_neg c6] at H
      exact absurd H (by simp)
    ·rw [if_neg c5] at H
     exact absurd H (by simp)
   ·rw [if_neg c4] at H
    have c4b0 : decide (x4_1 < (l0_1.length : Int)) = false := decide_eq_false c4
    clear c4
    by_cases c11 : (l0_1.length : Int) = 0
    ·rw [if_pos c11] at H
     have c11b0 : ((l0_1.length : Int) == 0) = true := beq_iff_eq.mpr c11
     have c11b1 : ((l0_1.length : Int) != 0) = false := bne_eq_false_iff_eq.mpr c11
     clear c11
     obtain rfl := Option.some.inj H
     have hcz12_0 : wr.cell? ⟨gb104, 0, none⟩ = some (.int .i64 a0_0) := (kc_ BK104.out 0).trans rfl
     have hcz12_1 : wr.cell? ⟨gb104, 1, none⟩ = some (.slice A0_1 l0_1.length c0_1) := (kc_ BK104.out 1).trans rfl
     have hfz12_0 := kf_ BK104.out 0
     have hfz12_1 := kf_ BK104.out 1
     go_wp2
     go_ret
     exact ⟨by first | rfl | (simp [eN_, eS_] <;> rfl) | (simp [*, eN_, eS_] <;> rfl), by repeat (first | (with_reducible first | exact HB.out | apply ba_ | apply pN_ | apply bd_ | refine bs_ ?_ GE104.out) | exact HB.out)⟩
    ·rw [if_neg c11] at H
     have c11b0 : ((l0_1.length : Int) == 0) = false := beq_eq_false_iff_ne.mpr c11
     have c11b1 : ((l0_1.length : Int) != 0) = true := bne_iff_ne.mpr c11
     have c11b2 : ¬ (l0_1 = []) := fun h_ => c11 (by rw [h_]; rfl)
     by_cases c13 : (l0_1.length : Int) ≤ 100
     ·rw [if_pos c13] at H
      have c13b0 : decide ((l0_1.length : Int) ≤ 100) = true := decide_eq_true c13
      have c13b1 : decide (l0_1.length ≤ 100) = true := decide_eq_true (by omega)
      clear c13
      obtain ⟨ji14, hji14⟩ : ∃ j_ : Int, (wrap64 ((l0_1.length : Int) - 1)) = j_ := ⟨_, rfl⟩
      replace H : (if 0 ≤ (ji14) then (if (ji14) < (l0_1.length : Int) then (if (rd l0_1 (ji14)) = 0 then (some false) else (if a0_0 = 1 then (some true) else (some (a0_0 == (-1))))) else (none)) else (none)) = some r := by first | (rw [hji14] at H; exact H) | (simp only [hji14] at H ⊢; exact H)
      have hji14w : (IntKind.i64.wrap ((l0_1.length : Int) - 1)) = ji14 := (i64_w _).trans hji14
      by_cases c15 : 0 ≤ (ji14)
      ·rw [if_pos c15] at H
       have c15b0 : decide (0 ≤ (ji14)) = true := decide_eq_true c15
       clear c15
       by_cases c16 : (ji14) < (l0_1.length : Int)
       ·rw [if_pos c16] at H
        have c16b0 : decide ((ji14) < (l0_1.length : Int)) = true := decide_eq_true c16
        clear c16
        by_cases c17 : (rd l0_1 (ji14)) = 0
        ·rw [if_pos c17] at H
         have c17b0 : ((rd l0_1 (ji14)) == 0) = true := beq_iff_eq.mpr c17
         have c17b1 : ((rd l0_1 (ji14)) != 0) = false := bne_eq_false_iff_eq.mpr c17
         clear c17
         obtain rfl := Option.some.inj H
         have hcz18_0 : wr.cell? ⟨gb104, 0, none⟩ = some (.int .i64 a0_0) := (kc_ BK104.out 0).trans rfl
         have hcz18_1 : wr.cell? ⟨gb104, 1, none⟩ = some (.slice A0_1 l0_1.length c0_1) := (kc_ BK104.out 1).trans rfl
         have hfz18_0 := kf_ BK104.out 0
         have hfz18_1 := kf_ BK104.out 1
         have p107 : 0 ≤ ((ji14) : Int) := of_decide_eq_true (by first | (with_reducible assumption) | assumption)
         have q107 : (ji14) < (l0_1.length : Int) := of_decide_eq_true (by first | (with_reducible assumption) | assumption)
         obtain ⟨ad107, e107, hx107_0⟩ := Kd.at_int HR0_1.out (ji14) p107 q107
         cases e107
         replace hx107_0 := (HB.out.cell (World.block_lt_of_cell? w _ hx107_0)).trans hx107_0
         replace p107 := eq_true p107
         replace q107 := eq_true q107
         go_wp2
         go_ret
         exact ⟨by first | rfl | (simp [eN_, eS_] <;> rfl) | (simp only [← hji14]; first | rfl | (simp [eN_, eS_] <;> rfl)) | (simp [*, eN_, eS_] <;> rfl), by repeat (first | (with_reducible first | exact HB.out | apply ba_ | apply pN_ | apply bd_ | refine bs_ ?_ GE104.out) | exact HB.out)⟩
        ·rw [if_neg c17] at H
         have c17b0 : ((rd l0_1 (ji14)) == 0) = false := beq_eq_false_iff_ne.mpr c17
         have c17b1 : ((rd l0_1 (ji14)) != 0) = true := bne_iff_ne.mpr c17
         by_cases c19 : a0_0 = 1
         ·rw [if_pos c19] at H
          have c19b0 : (a0_0 == 1) = true := beq_iff_eq.mpr c19
          have c19b1 : (a0_0 != 1) = false := bne_eq_false_iff_eq.mpr c19
          clear c19
          obtain rfl := Option.some.inj H
          have hcz20_0 : wr.cell? ⟨gb104, 0, none⟩ = some (.int .i64 a0_0) := (kc_ BK104.out 0).trans rfl
          have hcz20_1 : wr.cell? ⟨gb104, 1, none⟩ = some (.slice A0_1 l0_1.length c0_1) := (kc_ BK104.out 1).trans rfl
          have hfz20_0 := kf_ BK104.out 0
          have hfz20_1 := kf_ BK104.out 1
          have p107 : 0 ≤ ((ji14) : Int) := of_decide_eq_true (by first | (with_reducible assumption) | assumption)
          have q107 : (ji14) < (l0_1.length : Int) := of_decide_eq_true (by first | (with_reducible assumption) | assumption)
          obtain ⟨ad107, e107, hx107_0⟩ := Kd.at_int HR0_1.out (ji14) p107 q107
          cases e107
          replace hx107_0 := (HB.out.cell (World.block_lt_of_cell? w _ hx107_0)).trans hx107_0
          replace p107 := eq_true p107
          replace q107 := eq_true q107
          go_wp2
          go_ret
          exact ⟨by first | rfl | (simp [eN_, eS_] <;> rfl) | (simp only [← hji14]; first | rfl | (simp [eN_, eS_] <;> rfl)) | (simp [*, eN_, eS_] <;> rfl), by repeat (first | (with_reducible first | exact HB.out | apply ba_ | apply pN_ | apply bd_ | refine bs_ ?_ GE104.out) | exact HB.out)⟩
         ·rw [if_neg c19] at H
          have c19b0 : (a0_0 == 1) = false := beq_eq_false_iff_ne.mpr c19
          have c19b1 : (a0_0 != 1) = true := bne_iff_ne.mpr c19
          obtain rfl := Option.some.inj H
          have hcz21_0 : wr.cell? ⟨gb104, 0, none⟩ = some (.int .i64 a0_0) := (kc_ BK104.out 0).trans rfl
          have hcz21_1 : wr.cell? ⟨gb104, 1, none⟩ = some (.slice A0_1 l0_1.length c0_1) := (kc_ BK104.out 1).trans rfl
          have hfz21_0 := kf_ BK104.out 0
          have hfz21_1 := kf_ BK104.out 1
          have p107 : 0 ≤ ((ji14) : Int) := of_decide_eq_true (by first | (with_reducible assumption) | assumption)
          have q107 : (ji14) < (l0_1.length : Int) := of_decide_eq_true (by first | (with_reducible assumption) | assumption)
          obtain ⟨ad107, e107, hx107_0⟩ := Kd.at_int HR0_1.out (ji14) p107 q107
          cases e107
          replace hx107_0 := (HB.out.cell (World.block_lt_of_cell? w _ hx107_0)).trans hx107_0
          replace p107 := eq_true p107
          replace q107 := eq_true q107
          go_wp2
          go_ret
          exact ⟨by first | rfl | (simp [eN_, eS_] <;> rfl) | (simp only [← hji14]; first | rfl | (simp [eN_, eS_] <;> rfl)) | (simp [*, eN_, eS_] <;> rfl), by repeat (first | (with_reducible first | exact HB.out | apply ba_ | apply pN_ | apply bd_ | refine bs_ ?_ GE104.out) | exact HB.out)⟩
       ·rw [if_neg c16] at H
        exact absurd H (by simp)
      ·rw [if_neg c15] at H
       exact absurd H (by simp)
     ·rw [if_neg c13] at H
      have c13b0 : decide ((l0_1.length : Int) ≤ 100) = false := decide_eq_false c13
      have c13b1 : decide (l0_1.length ≤ 100) = false := decide_eq_false (by omega)
      clear c13
      obtain rfl := Option.some.inj H
      go_wp2
      go_ret
      exact ⟨by first | rfl | (simp [eN_, eS_] <;> rfl) | (simp [*, eN_, eS_] <;> rfl), by repeat (first | (with_reducible first | exact HB.out | apply ba_ | apply pN_ | apply bd_ | refine bs_ ?_ GE104.out) | exact HB.out)⟩
def spec_l03Is.j0 : Nat → Bool → Int → List Int → Int → Option (Bool)
 | 0, _, _, _, _ => none
 | k + 1, x12, x109000, x109001, x109002 => if x12 = true then (some false) else (if x109000 = 0 then (some (x109002 == 0)) else (if 0 < (x109001.length : Int) then (some ((Int.tmod (rd x109001 0) 2) == 1)) else (none)))
def spec_l03Is.f (k : Nat) (a0_0 : Int) (l0_1 : List Int) (a0_2 : Int) : Option (Bool) := (spec_l02Is.f k a0_0 l0_1).bind fun t109 => (if t109 = true then ((spec_l01In.f a0_2 (-3000) 3000).bind fun t110 => (spec_l03Is.j0 k (!t110) a0_0 l0_1 a0_2)) else (spec_l03Is.j0 k true a0_0 l0_1 a0_2))
set_option maxHeartbeats 8000000 in
set_option maxRecDepth 100000 in
theorem spec_l03Is.calls (k : Nat) (a0_0 : Int) (A0_1 : Option Addr) (c0_1 : Nat) (l0_1 : List Int) (a0_2 : Int) (r : Bool) (w : World) (hr0_1 : Kd.C (Kd.int .i64) w A0_1 l0_1.length l0_1) (hc0_1 : l0_1.length ≤ c0_1) (h : spec_l03Is.f k a0_0 l0_1 a0_2 = some r) :
  Calls Tryz.prog 117 #[.agg #[.int .i64 a0_0, .slice A0_1 l0_1.length c0_1, .int .i64 a0_2]] w fun e w' => e = .returned (.bool r) ∧ Below w.heap.size w w' := by
 have hu56 := Tryz.underlying56
 have hu54 := Tryz.underlying54
 have HR0_1 := As_.mk hr0_1
 have HC0_1 := As_.mk hc0_1
 clear hr0_1 hc0_1
 have HB := As_.mk (Below.refl w.heap.size w)
 have H : ((spec_l02Is.f k a0_0 l0_1).bind fun t109 => (if t109 = true then ((spec_l01In.f a0_2 (-3000) 3000).bind fun t110 => (spec_l03Is.j0 k (!t110) a0_0 l0_1 a0_2)) else (spec_l03Is.j0 k true a0_0 l0_1 a0_2))) = some r := h
 clear h
 have HC2 := As_.mk H
 clear H
 go_enter Tryz.func117, Tryz.ntmps117
 go_upto_region 1 with (first | ((with_reducible refine gate_dst (N := 1) rfl ?_); refine box_event ?hg (N := 1) ?hd (cs := #[.int .i64 a0_0, .slice A0_1 l0_1.length c0_1, .int .i64 a0_2]) (t := 56) ?hr ?_; (case hd => rfl); (case hg => rfl); (case hr => first | (go_simp; done) | (go_simp; rfl)); intro gb108 hg w3 hbox hb; have n0_ := As_.mk (bp_ (by repeat (first | (with_reducible first | exact HB.out | apply ba_ | apply pN_ | apply bd_) | exact HB.out)) hb); have n1_ := As_.mk (hbox); have n2_ := As_.mk ((by rw [hg]; exact (bz_ (by repeat (first | (with_reducible first | exact HB.out | apply ba_ | apply pN_ | apply bd_) | exact HB.out))) : w.heap.size ≤ gb108)); have n3_ := As_.mk ((by rw [hg]; exact (bz_ (by repeat (first | (with_reducible first | exact HB.out | apply ba_ | apply pN_ | apply bd_) | exact HB.out))) : w.heap.size ≤ gb108)); clear HB; have HB := n0_; have BK108 := n1_; have GW108 := n2_; have GE108 := n3_; clear n0_ n1_ n2_ n3_; clear hb hbox hg))
 (try simp only [Act.put, List.setIfInBounds_toArray, List.set_cons_zero, List.set_cons_succ])
 go_cut [12] (fun v12 wc => ∃ (kq : Nat) (x12_1 : Bool), v12 = .bool x12_1 ∧ As_ (spec_l03Is.j0 kq x12_1 a0_0 l0_1 a0_2 = some r) ∧ As_ (kq ≤ k) ∧ As_ (wc.heap[gb108]? = some (.cells #[.int .i64 a0_0, (.slice A0_1 l0_1.length c0_1), .int .i64 a0_2] 56 (0, 0))) ∧ As_ (Below w.heap.size w wc))
 case first =>
  have H := HC2.out
  clear HC2
  replace H := Option.bind_eq_some_iff.mp H
  obtain ⟨t109, A40, H⟩ := H
  replace H : (if t109 = true then ((spec_l01In.f a0_2 (-3000) 3000).bind fun t110 => (spec_l03Is.j0 k (!t110) a0_0 l0_1 a0_2)) else (spec_l03Is.j0 k true a0_0 l0_1 a0_2)) = some r := H
  have A4 := As_.mk A40
  clear A40
  by_cases c5 : t109 = true
  ·subst c5
   have H1 : ((spec_l01In.f a0_2 (-3000) 3000).bind fun t110 => (spec_l03Is.j0 k (!t110) a0_0 l0_1 a0_2)) = some r := by rw [if_pos rfl] at H; exact H
   clear H
   have H := H1
   clear H1
   replace H := Option.bind_eq_some_iff.mp H
   obtain ⟨t110, A60, H⟩ := H
   replace H : (spec_l03Is.j0 k (!t110) a0_0 l0_1 a0_2) = some r := H
   have A6 := As_.mk A60
   clear A60
   have H' := As_.mk H
   clear H
   have hcz7_0 : w3.cell? ⟨gb108, 0, none⟩ = some (.int .i64 a0_0) := (kc_ BK108.out 0).trans rfl
   have hcz7_1 : w3.cell? ⟨gb108, 1, none⟩ = some (.slice A0_1 l0_1.length c0_1) := (kc_ BK108.out 1).trans rfl
   have hcz7_2 : w3.cell? ⟨gb108, 2, none⟩ = some (.int .i64 a0_2) := (kc_ BK108.out 2).trans rfl
   have hfz7_0 := kf_ BK108.out 0
   have hfz7_1 := kf_ BK108.out 1
   have hfz7_2 := kf_ BK108.out 2
   go_wp2_with (first | ((with_reducible refine gate_callee (f := 168) rfl ?_); refine goesL_ (some 5) rfl rfl Tryz.func168 (by kernel_rfl) rfl #[.agg #[.int .i64 a0_0, .slice A0_1 l0_1.length c0_1]] rfl (by (try simp only [List.map_toArray, List.map_cons, List.map_nil]); first | done | rfl | (simp only [List.length_drop, List.length_take]; rfl)) ?_; (with_reducible refine (spec_l02Is.calls k a0_0 _ _ l0_1 true _ ?side1 ?side2 A4.out).mono ?_); (case side1 => repeat (first | exact (Kd.C_below HR0_1.out HB.out) | (with_reducible refine Kd.C_alloc ?_ _) | (with_reducible refine Kd.C_drewN ?_ _) | (with_reducible refine Kd.C_drew ?_))); (case side2 => exact HC0_1.out); rintro e w8 ⟨rfl, hb⟩; refine ⟨_, rfl, ?_⟩; have n0_ := As_.mk (kb_ (g := gb108) (o := .cells #[.int .i64 a0_0, .slice A0_1 l0_1.length c0_1, .int .i64 a0_2] 56 (0, 0)) (by (with_reducible repeat (first | refine kN_ ?_ _ | refine kd_ ?_ | refine ka_ ?_ _)); exact BK108.out) hb); have n1_ := As_.mk (bp_ (by repeat (first | (with_reducible first | exact HB.out | apply ba_ | apply pN_ | apply bd_ | refine bs_ ?_ GE108.out) | exact HB.out)) hb); clear BK108; clear HB; have BK108 := n0_; have HB := n1_; clear n0_ n1_; (try clear hb); (try clear hb2); (try clear hk); (try clear hi); have hcz9_0 : w8.cell? ⟨gb108, 0, none⟩ = some (.int .i64 a0_0) := (kc_ BK108.out 0).trans rfl; have hcz9_1 : w8.cell? ⟨gb108, 1, none⟩ = some (.slice A0_1 l0_1.length c0_1) := (kc_ BK108.out 1).trans rfl; have hcz9_2 : w8.cell? ⟨gb108, 2, none⟩ = some (.int .i64 a0_2) := (kc_ BK108.out 2).trans rfl; have hfz9_0 := kf_ BK108.out 0; have hfz9_1 := kf_ BK108.out 1; have hfz9_2 := kf_ BK108.out 2) | (go_at_call 114; (with_reducible refine (spec_l01In.calls a0_2 (-3000) 3000 t110 _ A6.out).mono ?_); rintro e w' ⟨rfl, ⟨nd, rfl⟩⟩))
   go_meet
   case rel => exact ⟨_, (!t110), (by first | rfl | (simp; done) | (simp [*]; done)), H', ⟨by first | omega | exact Nat.le_refl _⟩, ⟨by (with_reducible repeat (first | refine kN_ ?_ _ | refine kd_ ?_ | refine ka_ ?_ _)); exact BK108.out⟩, ⟨by repeat (first | (with_reducible first | exact HB.out | apply ba_ | apply pN_ | apply bd_ | refine bs_ ?_ GE108.out) | exact HB.out)⟩⟩
  ·replace c5 := Bool.eq_false_iff.mpr c5
   subst c5
   have H1 : (spec_l03Is.j0 k true a0_0 l0_1 a0_2) = some r := by rw [if_neg (show ¬ (false = true) by decide)] at H; exact H
   clear H
   have H := H1
   clear H1
   have H' := As_.mk H
   clear H
   have hcz10_0 : w3.cell? ⟨gb108, 0, none⟩ = some (.int .i64 a0_0) := (kc_ BK108.out 0).trans rfl
   have hcz10_1 : w3.cell? ⟨gb108, 1, none⟩ = some (.slice A0_1 l0_1.length c0_1) := (kc_ BK108.out 1).trans rfl
   have hcz10_2 : w3.cell? ⟨gb108, 2, none⟩ = some (.int .i64 a0_2) := (kc_ BK108.out 2).trans rfl
   have hfz10_0 := kf_ BK108.out 0
   have hfz10_1 := kf_ BK108.out 1
   have hfz10_2 := kf_ BK108.out 2
   go_wp2_with (first | ((with_reducible refine gate_callee (f := 168) rfl ?_); refine goesL_ (some 5) rfl rfl Tryz.func168 (by kernel_rfl) rfl #[.agg #[.int .i64 a0_0, .slice A0_1 l0_1.length c0_1]] rfl (by (try simp only [List.map_toArray, List.map_cons, List.map_nil]); first | done | rfl | (simp only [List.length_drop, List.length_take]; rfl)) ?_; (with_reducible refine (spec_l02Is.calls k a0_0 _ _ l0_1 false _ ?side1 ?side2 A4.out).mono ?_); (case side1 => repeat (first | exact (Kd.C_below HR0_1.out HB.out) | (with_reducible refine Kd.C_alloc ?_ _) | (with_reducible refine Kd.C_drewN ?_ _) | (with_reducible refine Kd.C_drew ?_))); (case side2 => exact HC0_1.out); rintro e w11 ⟨rfl, hb⟩; refine ⟨_, rfl, ?_⟩; have n0_ := As_.mk (kb_ (g := gb108) (o := .cells #[.int .i64 a0_0, .slice A0_1 l0_1.length c0_1, .int .i64 a0_2] 56 (0, 0)) (by (with_reducible repeat (first | refine kN_ ?_ _ | refine kd_ ?_ | refine ka_ ?_ _)); exact BK108.out) hb); have n1_ := As_.mk (bp_ (by repeat (first | (with_reducible first | exact HB.out | apply ba_ | apply pN_ | apply bd_ | refine bs_ ?_ GE108.out) | exact HB.out)) hb); clear BK108; clear HB; have BK108 := n0_; have HB := n1_; clear n0_ n1_; (try clear hb); (try clear hb2); (try clear hk); (try clear hi)))
   go_meet
   case rel => exact ⟨_, (true), (by first | rfl | (simp; done) | (simp [*]; done)), H', ⟨by first | omega | exact Nat.le_refl _⟩, ⟨by (with_reducible repeat (first | refine kN_ ?_ _ | refine kd_ ?_ | refine ka_ ?_ _)); exact BK108.out⟩, ⟨by repeat (first | (with_reducible first | exact HB.out | apply ba_ | apply pN_ | apply bd_ | refine bs_ ?_ GE108.out) | exact HB.out)⟩⟩
 case rest =>
  clear HC2
  try clear c1
  try clear p2
  try clear c5
  try clear c11
  try clear hcz10_0
  try clear hcz10_1
  try clear hcz10_2
  try clear hcz7_0
  try clear hcz7_1
  try clear hcz7_2
  try clear hcz9_0
  try clear hcz9_1
  try clear hcz9_2
  try clear hfz10_0
  try clear hfz10_1
  try clear hfz10_2
  try clear hfz7_0
  try clear hfz7_1
  try clear hfz7_2
  try clear hfz9_0
  try clear hfz9_1
  try clear hfz9_2
  obtain ⟨kq, x12_1, rfl, HA, HJ1, BK108, HB⟩ := hcut
  cases kq with
  | zero => exact absurd HA.out (by simp [spec_l03Is.j0])
  | succ kj1 =>
   have H := HA.out
   clear HA
   simp only [spec_l03Is.j0] at H
   by_cases c12 : x12_1 = true
   ·subst c12
    have H1 : (some false) = some r := by rw [if_pos rfl] at H; exact H
    clear H
    have H := H1
    clear H1
    obtain rfl := Option.some.inj H
    go_wp2
    go_ret
    exact ⟨by first | rfl | (simp [eN_, eS_] <;> rfl) | (simp [*, eN_, eS_] <;> rfl), by repeat (first | (with_reducible first | exact HB.out | apply ba_ | apply pN_ | apply bd_ | refine bs_ ?_ GE108.out) | exact HB.out)⟩
   ·replace c12 := Bool.eq_false_iff.mpr c12
    subst c12
    have H1 : (if a0_0 = 0 then (some (a0_2 == 0)) else (if 0 < (l0_1.length : Int) then (some ((Int.tmod (rd l0_1 0) 2) == 1)) else (none))) = some r := by rw [if_neg (show ¬ (false = true) by decide)] at H; exact H
    clear H
    have H := H1
    clear H1
    by_cases c13 : a0_0 = 0
    ·rw [if_pos c13] at H
     have c13b0 : (a0_0 == 0) = true := beq_iff_eq.mpr c13
     have c13b1 : (a0_0 != 0) = false := bne_eq_false_iff_eq.mpr c13
     clear c13
     obtain rfl := Option.some.inj H
     have hcz14_0 : wc.cell? ⟨gb108, 0, none⟩ = some (.int .i64 a0_0) := (kc_ BK108.out 0).trans rfl
     have hcz14_1 : wc.cell? ⟨gb108, 1, none⟩ = some (.slice A0_1 l0_1.length c0_1) := (kc_ BK108.out 1).trans rfl
     have hcz14_2 : wc.cell? ⟨gb108, 2, none⟩ = some (.int .i64 a0_2) := (kc_ BK108.out 2).trans rfl
     have hfz14_0 := kf_ BK108.out 0
     have hfz14_1 := kf_ BK108.out 1
     have hfz14_2 := kf_ BK108.out 2
     go_wp2
     go_ret
     exact ⟨by first | rfl | (simp [eN_, eS_] <;> rfl) | (simp [*, eN_, eS_] <;> rfl), by repeat (first | (with_reducible first | exact HB.out | apply ba_ | apply pN_ | apply bd_ | refine bs_ ?_ GE108.out) | exact HB.out)⟩
    ·rw [if_neg c13] at H
     have c13b0 : (a0_0 == 0) = false := beq_eq_false_iff_ne.mpr c13
     have c13b1 : (a0_0 != 0) = true := bne_iff_ne.mpr c13
     by_cases c15 : 0 < (l0_1.length : Int)
     ·rw [if_pos c15] at H
      have c15b0 : decide (0 < (l0_1.length : Int)) = true := decide_eq_true c15
      have c15b1 : decide (0 < l0_1.length) = true := decide_eq_true (by omega)
      clear c15
      obtain rfl := Option.some.inj H
      have hcz16_0 : wc.cell? ⟨gb108, 0, none⟩ = some (.int .i64 a0_0) := (kc_ BK108.out 0).trans rfl
      have hcz16_1 : wc.cell? ⟨gb108, 1, none⟩ = some (.slice A0_1 l0_1.length c0_1) := (kc_ BK108.out 1).trans rfl
      have hcz16_2 : wc.cell? ⟨gb108, 2, none⟩ = some (.int .i64 a0_2) := (kc_ BK108.out 2).trans rfl
      have hfz16_0 := kf_ BK108.out 0
      have hfz16_1 := kf_ BK108.out 1
      have hfz16_2 := kf_ BK108.out 2
      have p111 : 0 ≤ (0 : Int) := (by omega)
      have q111 : 0 < (l0_1.length : Int) := of_decide_eq_true (by first | (with_reducible assumption) | assumption)
      obtain ⟨ad111, e111, hx111_0⟩ := Kd.at_int HR0_1.out 0 p111 q111
      cases e111
      have qi111 : (0 < l0_1.length) = True := eq_true (by omega)
      (try rw [show ((0 : Int)).toNat = 0 from rfl] at hx111_0)
      (try rw [Addr.add_zero'] at hx111_0)
      replace hx111_0 := (HB.out.cell (World.block_lt_of_cell? w _ hx111_0)).trans hx111_0
      replace p111 := eq_true p111
      replace q111 := eq_true q111
      go_wp2
      go_ret
      exact ⟨by first | rfl | (simp [eN_, eS_] <;> rfl) | (simp [*, eN_, eS_] <;> rfl), by repeat (first | (with_reducible first | exact HB.out | apply ba_ | apply pN_ | apply bd_ | refine bs_ ?_ GE108.out) | exact HB.out)⟩
     ·rw [if_neg c15] at H
      exact absurd H (by simp)
end Go.Proofs.YtlogcnglmdpejaaGreatDoor.Pq
end
