/- Part 14 of the proof of the card of FnExactV: walks of the functions and plain facts on them. -/
import Derived.Test.YtlogcnglmdpejaaGreatDoorMV10
import Derived.Test.YtlogcnglmdpejaaGreatDoorMV13
section
namespace Go.Proofs.YtlogcnglmdpejaaGreatDoor.Hd
open Go.RowKit Go.Proofs.YtlogcnglmdpejaaGreatDoorW.PrintWords Go.Proofs.YtlogcnglmdpejaaGreatDoorW.PrintLast Go.Proofs.YtlogcnglmdpejaaGreatDoorW.PrintMore Go.Proofs.YtlogcnglmdpejaaGreatDoor.Pq
set_option linter.unusedVariables false
set_option linter.unusedSimpArgs false
theorem own_f (l : List Int) (h : l.length ≤ 1000000) : spec_l01Own.f l = some l := by
  unfold spec_l01Own.f
  simp
  omega
def mkW (s : Int) (N : Nat) : Int × List Int := if N = 0 then (0, []) else (s, E N)
theorem make_l0 (n : Nat) : ∀ (k : Nat) (s : Int) (l : List Int), n ≤ l.length → l.length ≤ 1000000 → n < k →
    spec_l02Make.l0 k s l (n : Int) = some (if trim (l.take n) = [] then (0, []) else (s, trim (l.take n))) := by
  induction n with
  | zero =>
    intro k s l h1 h2 h3
    obtain ⟨k, rfl⟩ : ∃ m, k = m + 1 := ⟨k - 1, by omega⟩
    rw [spec_l02Make.l0]
    simp [trim_nil]
  | succ n ih =>
    intro k s l h1 h2 h3
    obtain ⟨k, rfl⟩ : ∃ m, k = m + 1 := ⟨k - 1, by omega⟩
    rw [spec_l02Make.l0, if_pos (by omega), w64p n (by omega), if_pos (by omega), if_pos (by omega), rd_getD]
    rw [take_succ_getD l n (by omega)]
    by_cases hz : l.getD n 0 = 0
    · rw [if_pos hz, ih k s l (by omega) h2 (by omega), hz, trim_snoc_zero]
    · rw [if_neg hz, if_neg (by omega), if_pos (by omega), if_pos (by omega), trim_snoc _ hz, Int.toNat_natCast, own_f _ (by rw [List.length_take]; omega), take_succ_getD l n (by omega)]
      simp
theorem make_f {k : Nat} {s : Int} {l : List Int} (hd : Dg 16777216 l) (hl : l.length ≤ 1000000) (hk : l.length < k) : spec_l02Make.f k s l = some (mkW s (vl 16777216 l).toNat) := by
  unfold spec_l02Make.f
  rw [make_l0 l.length k s l (Nat.le_refl _) hl hk, List.take_length, E_trim hd]
  unfold mkW
  by_cases h : (vl 16777216 l).toNat = 0
  · rw [if_pos h, h, E_zero, if_pos rfl]
  · rw [if_neg h, if_neg (fun e => h (E_nil.1 e))]
theorem read_l2 (n : Nat) : ∀ (m : Nat) (s : Int) (t : ByteArray) (L : List Int) (i : Nat) (c : Int) (j : Nat), L.length - j = n → j ≤ L.length → L.length ≤ 2000 → i ≤ 2000 → Dg 16777216 L → 0 ≤ c → c ≤ 10 →
    ∃ L', Dg 16777216 L' ∧ L'.length ≤ L.length + 1 ∧ vl 16777216 L' = vl 16777216 (L.take j) + (16777216 : Int) ^ j * (c + 10 * vl 16777216 (L.drop j)) ∧
      spec_l02Read.l2 (m + n + 1) s t L i c j = spec_l02Read.l1 m s t L' ((i + 1 : Nat) : Int) := by
  induction n with
  | zero =>
    intro m s t L i c j h1 h2 h3 h4 hd hc hc2
    have hj : j = L.length := by omega
    subst hj
    rw [spec_l02Read.l2, if_neg (by omega), w64s i (by omega)]
    rw [List.drop_of_length_le (Nat.le_refl _), vl_nil, List.take_length]
    by_cases h : c > 0
    · refine ⟨L ++ [c], hd.append (Dg.cons hc (by omega) (Dg.nil _)), by simp, by rw [vl_snoc]; simp, ?_⟩
      rw [if_pos h, if_pos (by omega)]
    · refine ⟨L, hd, by omega, ?_, by rw [if_neg h]⟩
      have : c = 0 := by omega
      rw [this]
      simp
  | succ n ih =>
    intro m s t L i c j h1 h2 h3 h4 hd hc hc2
    rw [show m + (n + 1) + 1 = (m + n + 1) + 1 by omega, spec_l02Read.l2, if_pos (by omega), if_pos (by omega), rd_getD]
    obtain ⟨g0, g1⟩ := hd.getD (by omega) j
    have hx : vl 16777216 (L.drop j) = L.getD j 0 + 16777216 * vl 16777216 (L.drop (j + 1)) := by rw [drop_getD L j (by omega), vl_cons]
    generalize hy : L.getD j 0 = y at g0 g1 hx ⊢
    rw [w64 (x := 10 * y) (by omega) (by omega), w64 (x := c + 10 * y) (by omega) (by omega), Int.tmod_eq_emod_of_nonneg (by omega), Int.tdiv_eq_ediv_of_nonneg (by omega), w64 (x := (c + 10 * y) / 16777216) (by omega) (by omega), w64s j (by omega), Int.toNat_natCast]
    obtain ⟨L', a1, a2, a3, a4⟩ := ih m s t (L.set j ((c + 10 * y) % 16777216)) i ((c + 10 * y) / 16777216) (j + 1) (by rw [List.length_set]; omega) (by rw [List.length_set]; omega) (by rw [List.length_set]; omega) h4 (hd.set j (by omega) (by omega)) (by omega) (by omega)
    refine ⟨L', a1, by rw [List.length_set] at a2; exact a2, ?_, a4⟩
    rw [a3, take_set_succ L j _ (by omega), vl_snoc, List.length_take, Nat.min_eq_left (by omega), List.drop_set_of_lt (by omega), hx, Int.pow_succ]
    generalize vl 16777216 (L.drop (j + 1)) = r
    generalize (16777216 : Int) ^ j = p
    have e : (c + 10 * y) % 16777216 + 16777216 * ((c + 10 * y) / 16777216) = c + 10 * y := by omega
    generalize (c + 10 * y) % 16777216 = u at e ⊢
    generalize (c + 10 * y) / 16777216 = v at e ⊢
    have e2 : p * (c + 10 * (y + 16777216 * r)) = p * u + p * 16777216 * (v + 10 * r) := by
      have : c + 10 * (y + 16777216 * r) = u + 16777216 * (v + 10 * r) := by omega
      rw [this, Int.mul_add, Int.mul_assoc]
    rw [e2]
    omega
theorem read_l1 (n : Nat) : ∀ (k : Nat) (s : Int) (t : ByteArray) (L : List Int) (i : Nat), min t.size 1000 - i = n → i ≤ min t.size 1000 → t.size ≤ 2000000 → (∀ j : Nat, j < t.size → 48 ≤ bt t j ∧ bt t j ≤ 57) →
    Dg 16777216 L → L.length ≤ i → vl 16777216 L = dec t i → 3000 * n + 3000 ≤ k →
    spec_l02Read.l1 k s t L (i : Int) = some ((mkW s (dec t (min t.size 1000))).1, (mkW s (dec t (min t.size 1000))).2, true) := by
  induction n with
  | zero =>
    intro k s t L i h1 h2 h3 ht hd hl hv hk
    obtain ⟨k, rfl⟩ : ∃ m, k = m + 2 := ⟨k - 2, by omega⟩
    have hi : i = min t.size 1000 := by omega
    have hm := make_f (k := k) (s := s) hd (by omega) (by omega)
    rw [hv, Int.toNat_natCast] at hm
    rw [spec_l02Read.l1]
    by_cases hlt : (i : Int) < (t.size : Int)
    · rw [if_pos hlt, decide_eq_false (by omega), spec_l02Read.j5, if_neg (by decide), hm, ← hi]
      rfl
    · rw [if_neg hlt, spec_l02Read.j5, if_neg (by decide), hm, ← hi]
      rfl
  | succ n ih =>
    intro k s t L i h1 h2 h3 ht hd hl hv hk
    obtain ⟨k, rfl⟩ : ∃ m, k = m + 2 := ⟨k - 2, by omega⟩
    rw [spec_l02Read.l1, if_pos (by omega), decide_eq_true (by omega), spec_l02Read.j5, if_pos rfl, if_pos (by omega), if_pos (by omega)]
    obtain ⟨b0, b1⟩ := ht i (by omega)
    have hc : (bt t i - 48) % 256 = bt t i - 48 := by omega
    rw [hc]
    obtain ⟨L', a1, a2, a3, a4⟩ := read_l2 L.length (k - L.length - 1) s t L i (bt t i - 48) 0 (by omega) (by omega) (by omega) (by omega) hd (by omega) (by omega)
    rw [show k - L.length - 1 + L.length + 1 = k by omega] at a4
    rw [show ((0 : Nat) : Int) = 0 from rfl] at a4
    rw [a4]
    refine ih (k - L.length - 1) s t L' (i + 1) (by omega) (by omega) h3 ht a1 (by omega) ?_ (by omega)
    rw [a3]
    simp only [List.take_zero, List.drop_zero, vl_nil, hv, Int.pow_zero, Int.one_mul]
    rw [show dec t (i + 1) = dec t i * 10 + (bt t i - 48).toNat from rfl]
    omega
theorem read_l0 (s : ByteArray) (sg : Int) (hs : s.size ≤ 2000000) : ∀ n i k : Nat, s.size - i = n → i ≤ s.size → n < k →
    spec_l02Read.l0 k sg s (i : Int) = if adig s n i = true then spec_l02Read.l1 (k - n - 1) sg s [] 0 else some (0, [], false) := by
  intro n
  induction n with
  | zero =>
    intro i k hn hi hk
    obtain ⟨k, rfl⟩ : ∃ m, k = m + 1 := ⟨k - 1, by omega⟩
    rw [spec_l02Read.l0, if_neg (by omega), adig, if_pos rfl]
    rfl
  | succ n ih =>
    intro i k hn hi hk
    obtain ⟨k, rfl⟩ : ∃ m, k = m + 1 := ⟨k - 1, by omega⟩
    rw [spec_l02Read.l0, if_pos (by omega), if_pos (by omega), w64s i (by omega), adig]
    split
    · rw [if_neg (by decide)]
    · split
      · rw [if_neg (by decide)]
      · rw [ih (i + 1) k (by omega) (by omega) (by omega), show k + 1 - (n + 1) - 1 = k - n - 1 by omega]
def decT (t : ByteArray) : Nat := dec t (min t.size 1000)
theorem read_j2 (s : ByteArray) (sg : Int) (hs : s.size ≤ 2000000) (k : Nat) (hk : s.size + 3100000 ≤ k) : spec_l02Read.j2 k sg s false = some (if adig s s.size 0 = true then ((mkW sg (decT s)).1, (mkW sg (decT s)).2, true) else (0, [], false)) := by
  obtain ⟨k, rfl⟩ : ∃ m, k = m + 1 := ⟨k - 1, by omega⟩
  have h0 := read_l0 s sg hs s.size 0 k (by omega) (by omega) (by omega)
  rw [show ((0 : Nat) : Int) = 0 from rfl] at h0
  rw [spec_l02Read.j2, if_neg (by decide), h0]
  by_cases ha : adig s s.size 0 = true
  · rw [if_pos ha, if_pos ha]
    have h1 := read_l1 (min s.size 1000) (k - s.size - 1) sg s [] 0 (by omega) (by omega) hs (fun j hj => adig_spec s s.size 0 ha j (by omega) (by omega)) (Dg.nil _) (by simp) rfl (by omega)
    exact h1
  · rw [if_neg ha, if_neg ha]
theorem read_j1 (s : ByteArray) (sg : Int) (hs : s.size ≤ 2000000) (k : Nat) (hk : s.size + 3100001 ≤ k) :
    spec_l02Read.j1 k sg s = some (if numB s = true ∧ ¬ (sg < 0 ∧ s.size = 1 ∧ bt s 0 = 48) then ((mkW sg (decT s)).1, (mkW sg (decT s)).2, true) else (0, [], false)) := by
  obtain ⟨k, rfl⟩ : ∃ m, k = m + 2 := ⟨k - 2, by omega⟩
  have hj := read_j2 s sg hs (k + 1) (by omega)
  rw [spec_l02Read.j1]
  rcases Nat.eq_zero_or_pos s.size with h0 | h0
  · have hnb : numB s = false := by unfold numB; rw [if_pos h0]
    rw [if_pos (by omega), spec_l02Read.j2, if_pos rfl, hnb, if_neg (by simp)]
  · rw [if_neg (by omega), if_pos (by omega)]
    by_cases h48 : bt s 0 = 48
    · rw [if_pos h48]
      by_cases h1 : 1 < s.size
      · have hnb : numB s = false := by unfold numB; rw [if_neg (by omega), if_pos ⟨h48, h1⟩]
        rw [if_pos (by omega), spec_l02Read.j2, if_pos rfl, hnb, if_neg (by simp)]
      · have hnb : numB s = adig s s.size 0 := by unfold numB; rw [if_neg (by omega), if_neg (fun h => h1 h.2)]
        rw [if_neg (by omega), hnb]
        by_cases hsg : sg < 0
        · rw [decide_eq_true hsg, spec_l02Read.j2, if_pos rfl, if_neg (fun h => h.2 ⟨hsg, by omega, h48⟩)]
        · rw [decide_eq_false hsg, hj]
          congr 1
          by_cases ha : adig s s.size 0 = true
          · rw [if_pos ha, if_pos ⟨ha, fun h => hsg h.1⟩]
          · rw [if_neg ha, if_neg (fun h => ha h.1)]
    · have hnb : numB s = adig s s.size 0 := by unfold numB; rw [if_neg (by omega), if_neg (fun h => h48 h.1)]
      rw [if_neg h48, hj, hnb]
      congr 1
      by_cases ha : adig s s.size 0 = true
      · rw [if_pos ha, if_pos ⟨ha, fun h => h48 h.2.2⟩]
      · rw [if_neg ha, if_neg (fun h => ha h.1)]
theorem neg_zero_text {s : ByteArray} (h : s.toList = [48]) : (-1 : Int) < 0 ∧ s.size = 1 ∧ bt s 0 = 48 := by
  rw [Go.ByteArray.toList_eq] at h
  have e : s = ⟨#[48]⟩ := by
    rcases s with ⟨⟨l⟩⟩
    simp at h
    rw [h]
  rw [e]
  exact ⟨by decide, rfl, rfl⟩
theorem text_neg_zero {s : ByteArray} (h : (-1 : Int) < 0 ∧ s.size = 1 ∧ bt s 0 = 48) : s.toList = [48] := by
  rw [Go.ByteArray.toList_eq]
  obtain ⟨_, h1, h2⟩ := h
  rcases s with ⟨⟨l⟩⟩
  have hl : l.length = 1 := h1
  obtain ⟨a, rfl⟩ := List.length_eq_one_iff.1 hl
  have h3 : (a.toNat : Int) = 48 := h2
  have h4 : a = 48 := by
    apply UInt8.toNat_inj.1
    have : a.toNat = 48 := by omega
    rw [this]
    rfl
  rw [h4]
def rdT (s : ByteArray) : Int × Nat := if bt s 0 = 45 then (-1, decT (s.extract 1 s.size)) else (1, decT s)
theorem read_f (s : ByteArray) (hs : s.size ≤ 2000000) (k : Nat) (hk : s.size + 3100002 ≤ k) :
    spec_l02Read.f k s = some (if isNum s = true then ((mkW (rdT s).1 (rdT s).2).1, (mkW (rdT s).1 (rdT s).2).2, true) else (0, [], false)) := by
  obtain ⟨k, rfl⟩ : ∃ m, k = m + 1 := ⟨k - 1, by omega⟩
  rcases Nat.eq_zero_or_pos s.size with h0 | h0
  · have hi : isNum s = false := by unfold isNum; rw [if_neg (by omega)]
    have hnb : numB s = false := by unfold numB; rw [if_pos h0]
    rw [hi, if_neg (by decide)]
    unfold spec_l02Read.f
    rw [if_neg (by omega), spec_l02Read.j0, if_neg (by decide), read_j1 s 1 hs k (by omega), hnb, if_neg (by simp)]
  · have hsz : (s.extract 1 s.size).size = s.size - 1 := by simp
    unfold spec_l02Read.f
    rw [if_pos (by omega), if_pos (by omega), spec_l02Read.j0]
    by_cases h45 : bt s 0 = 45
    · have hi : isNum s = (if (s.extract 1 s.size).toList = [48] then false else numB (s.extract 1 s.size)) := by unfold isNum; rw [if_pos h0, if_pos h45]
      have hr : rdT s = (-1, decT (s.extract 1 s.size)) := if_pos h45
      rw [if_pos (by simp [h45]), if_pos (by omega), read_j1 _ (-1) (by omega) k (by omega), hi, hr]
      congr 1
      by_cases h48 : (s.extract 1 s.size).toList = [48]
      · rw [if_pos h48, if_neg (fun h => h.2 (neg_zero_text h48))]
        rfl
      · rw [if_neg h48]
        by_cases hn : numB (s.extract 1 s.size) = true
        · rw [if_pos hn, if_pos ⟨hn, fun h => h48 (text_neg_zero h)⟩]
        · rw [if_neg hn, if_neg (fun h => hn h.1)]
    · have hi : isNum s = numB s := by unfold isNum; rw [if_pos h0, if_neg h45]
      have hr : rdT s = (1, decT s) := if_neg h45
      rw [if_neg (by simp [h45]), read_j1 s 1 hs k (by omega), hi, hr]
      congr 1
      by_cases hn : numB s = true
      · rw [if_pos hn, if_pos ⟨hn, fun h => absurd h.1 (by decide)⟩]
      · rw [if_neg hn, if_neg (fun h => hn h.1)]
end Go.Proofs.YtlogcnglmdpejaaGreatDoor.Hd
end
section
namespace Go.Proofs.YtlogcnglmdpejaaGreatDoor.Hd
set_option exponentiation.threshold 3000
open Go.RowKit Go.Proofs.YtlogcnglmdpejaaGreatDoorW.PrintWords Go.Proofs.YtlogcnglmdpejaaGreatDoorW.PrintLast Go.Proofs.YtlogcnglmdpejaaGreatDoorW.PrintMore Go.Proofs.YtlogcnglmdpejaaGreatDoor.Pq
set_option linter.unusedVariables false
set_option linter.unusedSimpArgs false
theorem numB_first {t : ByteArray} (h : numB t = true) (h2 : 1 < t.size) : 49 ≤ bt t 0 := by
  have h1 := (numB_of h).2 0 (by omega)
  unfold numB at h
  rw [if_neg (by omega)] at h
  by_cases h48 : bt t 0 = 48
  · rw [if_pos ⟨h48, h2⟩] at h; cases h
  · have h3 : 48 ≤ bt t 0 := h1.1
    omega
theorem dec_ge {t : ByteArray} (h0 : 49 ≤ bt t 0) : ∀ i : Nat, 10 ^ i ≤ dec t (i + 1) := by
  intro i
  induction i with
  | zero =>
    show 1 ≤ 0 * 10 + (bt t ((0 : Nat) : Int) - 48).toNat
    rw [show ((0 : Nat) : Int) = 0 from rfl]
    omega
  | succ i ih =>
    show 10 ^ (i + 1) ≤ dec t (i + 1) * 10 + _
    rw [Nat.pow_succ]
    generalize 10 ^ i = p at ih ⊢
    omega
theorem dec_lt {t : ByteArray} (ht : ∀ j : Nat, j < t.size → 48 ≤ bt t j ∧ bt t j ≤ 57) : ∀ i : Nat, i ≤ t.size → dec t i < 10 ^ i := by
  intro i
  induction i with
  | zero => intro _; exact Nat.one_pos
  | succ i ih =>
    intro hi
    have h1 := ih (by omega)
    have h2 := ht i (by omega)
    show dec t i * 10 + (bt t i - 48).toNat < 10 ^ (i + 1)
    rw [Nat.pow_succ]
    generalize 10 ^ i = p at *
    omega
theorem ten_big {n : Nat} (h : 999 ≤ n) : 2 ^ 2400 ≤ 10 ^ n := by
  refine Nat.le_trans ?_ (Nat.pow_le_pow_right (by omega) h)
  refine Nat.le_trans (m := (2 ^ 3) ^ 999) ?_ (Nat.pow_le_pow_left (by omega) 999)
  rw [← Nat.pow_mul]
  exact Nat.pow_le_pow_right (by omega) (by omega)
theorem E_hundred {N : Nat} : (E N).length ≤ 100 ↔ bits N ≤ 2400 := by
  have e : (16777216 : Nat) ^ 100 = 2 ^ 2400 := by rw [show (16777216 : Nat) = 2 ^ 24 by decide, ← Nat.pow_mul]
  rw [bits_le_iff]
  constructor
  · intro h
    refine Nat.lt_of_lt_of_le (E_lt N) ?_
    rw [← e]
    exact Nat.pow_le_pow_right (by omega) h
  · intro h
    exact E_le (by rw [e]; exact h)
theorem decT_cases {t : ByteArray} (h : numB t = true) : decT t = dec t t.size ∨ (2400 < bits (decT t) ∧ 2400 < bits (dec t t.size)) := by
  unfold decT
  rcases Nat.lt_or_ge 1000 t.size with hs | hs
  · right
    have hf := numB_first h (by omega)
    rw [Nat.min_eq_right (by omega)]
    constructor
    · have h1 : 10 ^ 999 ≤ dec t 1000 := dec_ge hf 999
      rcases Nat.lt_or_ge 2400 (bits (dec t 1000)) with h2 | h2
      · exact h2
      · have h3 := bits_le_iff.1 h2
        have h4 := ten_big (n := 999) (Nat.le_refl _)
        exact absurd h3 (Nat.not_lt.2 (Nat.le_trans h4 h1))
    · have h1 := dec_ge hf (t.size - 1)
      rw [show t.size - 1 + 1 = t.size by omega] at h1
      rcases Nat.lt_or_ge 2400 (bits (dec t t.size)) with h2 | h2
      · exact h2
      · have h3 := bits_le_iff.1 h2
        have h4 := ten_big (n := t.size - 1) (by omega)
        exact absurd h3 (Nat.not_lt.2 (Nat.le_trans h4 h1))
  · left
    rw [Nat.min_eq_left hs]
theorem decT_len {t : ByteArray} (h : numB t = true) : (E (decT t)).length ≤ 1000 := by
  have hd := (numB_of h).2
  refine E_le (Nat.lt_of_lt_of_le (dec_lt hd (min t.size 1000) (by omega)) ?_)
  refine Nat.le_trans (Nat.pow_le_pow_left (show 10 ≤ 16777216 by omega) _) (Nat.pow_le_pow_right (by omega) (by omega))
theorem numB_neg {s : ByteArray} (h : numB s = true) (h48 : s.toList ≠ [48]) : 0 < dec s s.size := by
  obtain ⟨h0, hd⟩ := numB_of h
  by_cases h49 : 49 ≤ bt s 0
  · have := dec_ge h49 (s.size - 1)
    rw [show s.size - 1 + 1 = s.size by omega] at this
    have := Nat.pow_pos (n := s.size - 1) (show 0 < 10 by omega)
    omega
  · have h1 : ¬ 1 < s.size := fun h1 => h49 (numB_first h h1)
    exfalso
    exact h48 (text_neg_zero ⟨by omega, by omega, by have h2 : 48 ≤ bt s 0 := (hd 0 h0).1; omega⟩)
theorem rd_num {s : ByteArray} (h : isNum s = true) :
    ((E (rdT s).2).length ≤ 1000 ∧ ((rdT s).1 = 1 ∨ (rdT s).1 = -1)) ∧ (mkW (rdT s).1 (rdT s).2 = (cm (numZ s) 0, E (numZ s).natAbs) ∨ (2400 < bits (rdT s).2 ∧ 2400 < bits (numZ s).natAbs)) := by
  obtain ⟨h0, h1, h2⟩ := isNum_of h
  unfold rdT numZ
  by_cases h45 : bt s 0 = 45
  · rw [if_pos h45, if_pos h45]
    have hn := h1 h45
    have h48 : (s.extract 1 s.size).toList ≠ [48] := by
      intro e
      unfold isNum at h
      rw [if_pos h0, if_pos h45, if_pos e] at h
      cases h
    have hp := numB_neg hn h48
    refine ⟨⟨decT_len hn, .inr rfl⟩, ?_⟩
    rw [Int.natAbs_neg, Int.natAbs_natCast]
    rcases decT_cases hn with h3 | h3
    · left
      show mkW (-1) (decT (s.extract 1 s.size)) = _
      rw [h3]
      unfold mkW
      rw [if_neg (by omega), cm_lt (by omega)]
    · exact .inr h3
  · rw [if_neg h45, if_neg h45]
    have hn := h2 h45
    refine ⟨⟨decT_len hn, .inl rfl⟩, ?_⟩
    rw [Int.natAbs_natCast]
    rcases decT_cases hn with h3 | h3
    · left
      show mkW 1 (decT s) = _
      rw [h3]
      unfold mkW
      rcases Nat.eq_zero_or_pos (dec s s.size) with hz | hz
      · rw [if_pos hz, hz, E_zero]; rfl
      · rw [if_neg (by omega), cm_gt (by omega)]
    · exact .inr h3
theorem is_l0 (n : Nat) : ∀ (k j : Nat) (sg : Int) (N : Nat), (E N).length - j = n → j ≤ (E N).length → (E N).length ≤ 2000 → n < k → N ≠ 0 → (sg = 1 ∨ sg = -1) →
    spec_l02Is.l0 k ((E N).length : Int) j sg (E N) = some (decide ((E N).length ≤ 100)) := by
  induction n with
  | zero =>
    intro k j sg N h1 h2 h3 h4 h5 h6
    obtain ⟨k, rfl⟩ : ∃ m, k = m + 1 := ⟨k - 1, by omega⟩
    have hl : 0 < (E N).length := by
      rcases Nat.eq_zero_or_pos (E N).length with h | h
      · exact absurd (E_len0.1 h) h5
      · exact h
    rw [spec_l02Is.l0, if_neg (by omega), if_neg (by omega)]
    by_cases hh : (E N).length ≤ 100
    · rw [if_pos (by omega), w64 (by omega) (by omega), if_pos (by omega), if_pos (by omega), show ((E N).length : Int) - 1 = (((E N).length - 1 : Nat) : Int) by omega, rd_getD]
      have hcn := E_cn N
      have hlast : (E N).getD ((E N).length - 1) 0 ≠ 0 := by
        unfold Cn at hcn
        rw [List.getLast?_eq_getElem?] at hcn
        rw [List.getD_eq_getElem?_getD]
        intro e
        apply hcn
        rw [List.getElem?_eq_getElem (by omega)] at e ⊢
        simp at e
        rw [e]
      rw [if_neg hlast]
      rcases h6 with rfl | rfl
      · rw [if_pos rfl, decide_eq_true hh]
      · rw [if_neg (by omega), decide_eq_true hh]
        rfl
    · rw [if_neg (by omega), decide_eq_false hh]
  | succ n ih =>
    intro k j sg N h1 h2 h3 h4 h5 h6
    obtain ⟨k, rfl⟩ : ∃ m, k = m + 1 := ⟨k - 1, by omega⟩
    have hd := (E_dg N).getD (by omega) j
    have hin : spec_l01In.f ((E N).getD j 0) 0 16777215 = some true := by
      unfold spec_l01In.f
      rw [if_pos (by omega), decide_eq_true (by omega)]
    rw [spec_l02Is.l0, if_pos (by omega), if_pos (by omega), if_pos (by omega), rd_getD, hin]
    simp only [Option.bind_some]
    rw [if_pos trivial, w64s j (by omega), ih k (j + 1) sg N (by omega) (by omega) h3 (by omega) h5 h6]
theorem is_f {k : Nat} {sg : Int} {N : Nat} (hl : (E N).length ≤ 2000) (hk : (E N).length < k) (hs : sg = 1 ∨ sg = -1) : spec_l02Is.f k (mkW sg N).1 (mkW sg N).2 = some (decide ((E N).length ≤ 100)) := by
  unfold spec_l02Is.f mkW
  by_cases h : N = 0
  · rw [if_pos h, h, E_zero]
    obtain ⟨k, rfl⟩ : ∃ m, k = m + 1 := ⟨k - 1, by omega⟩
    simp [spec_l02Is.l0]
  · rw [if_neg h]
    exact is_l0 (E N).length k 0 sg N (by omega) (by omega) hl hk h hs
def isD (z e : Int) : Bool := decide (bits z.natAbs ≤ 2400) && (decide (-3000 ≤ e ∧ e ≤ 3000) && (if z = 0 then e == 0 else z.natAbs % 2 == 1))
theorem cm_pm (z : Int) (h : z ≠ 0) : cm z 0 = 1 ∨ cm z 0 = -1 := by
  rcases Int.lt_trichotomy z 0 with h1 | h1 | h1
  · exact .inr (cm_lt h1)
  · exact absurd h1 h
  · exact .inl (cm_gt h1)
theorem mkW_z (z : Int) : mkW (if z < 0 then -1 else 1) z.natAbs = (cm z 0, E z.natAbs) := by
  unfold mkW
  rcases Int.lt_trichotomy z 0 with h1 | h1 | h1
  · rw [if_neg (by omega), if_pos h1, cm_lt h1]
  · subst h1
    rw [if_pos (by decide), show (0 : Int).natAbs = 0 from rfl, E_zero]
    rfl
  · rw [if_neg (by omega), if_neg (by omega), cm_gt h1]
theorem isD_f {k : Nat} {z e : Int} (hl : (E z.natAbs).length ≤ 2000) (hk : (E z.natAbs).length + 1 < k) : spec_l03Is.f k (cm z 0) (E z.natAbs) e = some (isD z e) := by
  have h1 := is_f (k := k) (sg := if z < 0 then -1 else 1) (N := z.natAbs) hl (by omega) (by split; exact .inr rfl; exact .inl rfl)
  rw [mkW_z] at h1
  unfold spec_l03Is.f isD
  rw [h1]
  simp only [Option.bind_some]
  obtain ⟨k, rfl⟩ : ∃ m, k = m + 1 := ⟨k - 1, by omega⟩
  by_cases hh : (E z.natAbs).length ≤ 100
  · rw [decide_eq_true hh, if_pos rfl, decide_eq_true (E_hundred.1 hh), Bool.true_and]
    have hin : spec_l01In.f e (-3000) 3000 = some (decide (-3000 ≤ e ∧ e ≤ 3000)) := by
      unfold spec_l01In.f
      by_cases h2 : e ≥ -3000
      · rw [if_pos h2]
        congr 1
        exact decide_eq_decide.2 ⟨fun h => ⟨h2, h⟩, fun h => h.2⟩
      · rw [if_neg h2, decide_eq_false (fun h => h2 h.1)]
    rw [hin]
    simp only [Option.bind_some]
    rw [spec_l03Is.j0]
    by_cases h3 : -3000 ≤ e ∧ e ≤ 3000
    · rw [decide_eq_true h3, if_neg (by decide), Bool.true_and]
      by_cases hz : z = 0
      · subst hz
        have hc : cm 0 0 = 0 := rfl
        simp only [hc, if_true]
      · rw [if_neg (by rcases cm_pm z hz with h | h <;> rw [h] <;> decide), if_neg hz]
        have hp : 0 < z.natAbs := by omega
        rw [E_pos hp, if_pos (by simp)]
        congr 1
        have hr : rd (((z.natAbs % 16777216 : Nat) : Int) :: E (z.natAbs / 16777216)) 0 = ((z.natAbs % 16777216 : Nat) : Int) := rfl
        rw [hr, Int.tmod_eq_emod_of_nonneg (by omega)]
        rw [Bool.eq_iff_iff]
        simp
        omega
    · rw [decide_eq_false h3]
      simp only [Bool.not_false, if_true, Bool.false_and]
  · rw [decide_eq_false hh, if_neg (by decide), spec_l03Is.j0, if_pos rfl, decide_eq_false (fun h => hh (E_hundred.2 h))]
    rfl
def pAt (s : ByteArray) : Nat → Nat → Nat
  | 0, i => i
  | n + 1, i => if bt s i = 112 then i else pAt s n (i + 1)
theorem pAt_le (s : ByteArray) : ∀ n i : Nat, i ≤ pAt s n i ∧ pAt s n i ≤ i + n
  | 0, i => by unfold pAt; omega
  | n + 1, i => by
    unfold pAt
    have := pAt_le s n (i + 1)
    split <;> omega
def pIx (s : ByteArray) : Nat := pAt s s.size 0
theorem pIx_le (s : ByteArray) : pIx s ≤ s.size := by
  have := pAt_le s s.size 0
  unfold pIx
  omega
def rdy (s : ByteArray) : Option (Int × Int) :=
  if pIx s = s.size then none
  else if isNum (s.extract 0 (pIx s)) = true ∧ isNum (s.extract (pIx s + 1) s.size) = true ∧ isD (numZ (s.extract 0 (pIx s))) (numZ (s.extract (pIx s + 1) s.size)) = true
  then some (numZ (s.extract 0 (pIx s)), numZ (s.extract (pIx s + 1) s.size)) else none
theorem rd3_l0 (s : ByteArray) (hs : s.size ≤ 1100000) : ∀ n i k : Nat, s.size - i = n → i ≤ s.size → n < k →
    ∃ k', k ≤ k' + n + 1 ∧ spec_l03Read.l0 k s (i : Int) = spec_l03Read.j1 k' s (pAt s n i : Nat) := by
  intro n
  induction n with
  | zero =>
    intro i k hn hi hk
    obtain ⟨k, rfl⟩ : ∃ m, k = m + 1 := ⟨k - 1, by omega⟩
    exact ⟨k, by omega, by rw [spec_l03Read.l0, if_neg (by omega)]; rfl⟩
  | succ n ih =>
    intro i k hn hi hk
    obtain ⟨k, rfl⟩ : ∃ m, k = m + 1 := ⟨k - 1, by omega⟩
    rw [spec_l03Read.l0, if_pos (by omega), if_pos (by omega)]
    by_cases h : bt s i = 112
    · refine ⟨k, by omega, ?_⟩
      rw [if_pos h]
      unfold pAt
      rw [if_pos h]
    · obtain ⟨k', h1, h2⟩ := ih (i + 1) k (by omega) (by omega) (by omega)
      refine ⟨k', by omega, ?_⟩
      rw [if_neg h, w64s i (by omega), h2]
      conv => rhs; unfold pAt
      rw [if_neg h]
theorem bits_small {N : Nat} (h : N ≤ 3000) : bits N ≤ 12 := bits_le_iff.2 (by omega)
theorem rd3_f (s : ByteArray) (hs : s.size ≤ 1100000) : ∃ a l b, spec_l03Read.f 10000000 s = some (a, l, b, (rdy s).isSome) ∧ ∀ z e, rdy s = some (z, e) → a = cm z 0 ∧ l = E z.natAbs ∧ b = e := by
  obtain ⟨k', hk, he⟩ := rd3_l0 s hs s.size 0 10000000 (by omega) (by omega) (by omega)
  rw [show ((0 : Nat) : Int) = 0 from rfl] at he
  have hpl := pIx_le s
  unfold spec_l03Read.f
  rw [he]
  show ∃ a l b, spec_l03Read.j1 k' s ((pIx s : Nat) : Int) = _ ∧ _
  obtain ⟨k, rfl⟩ : ∃ m, k' = m + 2 := ⟨k' - 2, by omega⟩
  rw [spec_l03Read.j1]
  unfold rdy
  by_cases hp : pIx s = s.size
  · rw [if_pos (by omega), if_pos hp]
    exact ⟨0, [], 0, rfl, fun z e h => by cases h⟩
  · rw [if_neg (by omega), if_neg hp, if_pos (by omega), if_pos (by omega), w64s _ (by omega), Int.toNat_natCast, Int.toNat_natCast]
    generalize hone : s.extract 0 (pIx s) = one
    generalize htwo : s.extract (pIx s + 1) s.size = two
    have s1 : one.size ≤ 1100000 := by rw [← hone]; simp; omega
    have s2 : two.size ≤ 1100000 := by rw [← htwo]; simp; omega
    rw [read_f one (by omega) (k + 1) (by omega)]
    simp only [Option.bind_some]
    rw [if_pos (by omega), if_pos (by omega), read_f two (by omega) (k + 1) (by omega)]
    simp only [Option.bind_some]
    by_cases i1 : isNum one = true
    · obtain ⟨⟨l1, g1⟩, c1⟩ := rd_num i1
      have hno : ¬ (isNum one = true ∧ isNum two = true ∧ isD (numZ one) (numZ two) = true) → spec_l03Read.j2 (k + 1) true 0 [] 0 [] = some (0, [], 0, false) := fun _ => by rw [spec_l03Read.j2, if_pos rfl]
      by_cases i2 : isNum two = true
      · obtain ⟨⟨l2, g2⟩, c2⟩ := rd_num i2
        rw [if_pos i1, if_pos i2]
        simp only [if_true]
        rw [is_f (by omega) (by omega) g1]
        simp only [Option.bind_some]
        rcases c1 with c1 | ⟨c1, c1'⟩
        · rw [c1]
          have e1 : (E (rdT one).2) = E (numZ one).natAbs := by
            have := congrArg Prod.snd c1
            unfold mkW at this
            split at this
            · rename_i hz
              rw [hz, E_zero]
              exact this
            · exact this
          rw [e1] at l1 ⊢
          by_cases hh : (E (numZ one).natAbs).length ≤ 100
          · rw [decide_eq_true hh, if_pos rfl]
            rcases c2 with c2 | ⟨c2, c2'⟩
            · rw [c2]
              have e2 : (E (rdT two).2) = E (numZ two).natAbs := by
                have := congrArg Prod.snd c2
                unfold mkW at this
                split at this
                · rename_i hz
                  rw [hz, E_zero]
                  exact this
                · exact this
              rw [e2] at l2
              show ∃ a l b, spec_l03Read.j2 (k + 1) (decide (((E (numZ two).natAbs).length : Int) > 1)) (cm (numZ one) 0) (E (numZ one).natAbs) (cm (numZ two) 0) (E (numZ two).natAbs) = _ ∧ _
              by_cases h2 : (E (numZ two).natAbs).length ≤ 1
              · rw [decide_eq_false (by omega), spec_l03Read.j2, if_neg (by decide)]
                have hval : (if ((E (numZ two).natAbs).length : Int) = 1 then wrap64 (cm (numZ two) 0 * rd (E (numZ two).natAbs) 0) else 0) = numZ two := by
                  by_cases hz : (numZ two).natAbs = 0
                  · rw [hz, E_zero]
                    simp
                    omega
                  · have h16 : (numZ two).natAbs < 16777216 := by
                      have := E_lt (numZ two).natAbs
                      refine Nat.lt_of_lt_of_le this ?_
                      have := Nat.pow_le_pow_right (n := 16777216) (by omega) h2
                      omega
                    rw [E_pos (by omega), Nat.div_eq_of_lt h16, E_zero, Nat.mod_eq_of_lt h16]
                    have hr : rd [(((numZ two).natAbs : Nat) : Int)] 0 = (((numZ two).natAbs : Nat) : Int) := rfl
                    rw [hr, if_pos (by simp)]
                    rcases Int.lt_trichotomy (numZ two) 0 with h | h | h
                    · rw [cm_lt h, w64 (by omega) (by omega)]; omega
                    · omega
                    · rw [cm_gt h, w64 (by omega) (by omega)]; omega
                have hres : ∀ X : Option (Int × List Int × Int × Bool), X = (spec_l03Is.f k (cm (numZ one) 0) (E (numZ one).natAbs) (numZ two)).bind (fun t => some (cm (numZ one) 0, E (numZ one).natAbs, numZ two, t)) →
                    ∃ a l b, X = some (a, l, b, (if isNum one = true ∧ isNum two = true ∧ isD (numZ one) (numZ two) = true then some (numZ one, numZ two) else none).isSome) ∧ ∀ z e, (if isNum one = true ∧ isNum two = true ∧ isD (numZ one) (numZ two) = true then some (numZ one, numZ two) else none) = some (z, e) → a = cm z 0 ∧ l = E z.natAbs ∧ b = e := by
                  intro X hX
                  rw [isD_f (by omega) (by omega)] at hX
                  simp only [Option.bind_some] at hX
                  rw [hX]
                  by_cases hd : isD (numZ one) (numZ two) = true
                  · rw [if_pos ⟨i1, i2, hd⟩, hd]
                    exact ⟨_, _, _, rfl, fun z e h => by injection h with h; injection h with h1 h2; subst h1 h2; exact ⟨rfl, rfl, rfl⟩⟩
                  · have hd2 : isD (numZ one) (numZ two) = false := by simpa using hd
                    rw [if_neg (fun h => hd h.2.2), hd2]
                    exact ⟨_, _, _, rfl, fun z e h => by cases h⟩
                apply hres
                by_cases hl1 : ((E (numZ two).natAbs).length : Int) = 1
                · rw [if_pos hl1] at hval
                  rw [if_pos hl1, if_pos (by omega), hval]
                · rw [if_neg hl1] at hval
                  rw [if_neg hl1, hval]
              · rw [decide_eq_true (by omega), spec_l03Read.j2, if_pos rfl, if_neg]
                · exact ⟨0, [], 0, rfl, fun z e h => by cases h⟩
                · rintro ⟨_, _, h⟩
                  unfold isD at h
                  simp only [Bool.and_eq_true, decide_eq_true_eq] at h
                  apply h2
                  exact E_le (by have := h.2.1; omega)
            · have hlong : 1 < (mkW (rdT two).1 (rdT two).2).2.length := by
                have h100 : ¬ (E (rdT two).2).length ≤ 100 := fun h => by have := E_hundred.1 h; omega
                unfold mkW
                split
                · rename_i hz; rw [hz, E_zero] at h100; simp at h100
                · show 1 < (E (rdT two).2).length
                  omega
              rw [decide_eq_true (by omega), spec_l03Read.j2, if_pos rfl, if_neg]
              · exact ⟨0, [], 0, rfl, fun z e h => by cases h⟩
              · rintro ⟨_, _, h⟩
                unfold isD at h
                simp only [Bool.and_eq_true, decide_eq_true_eq] at h
                have := bits_small (N := (numZ two).natAbs) (by have := h.2.1; omega)
                omega
          · rw [decide_eq_false hh, if_neg (by decide), spec_l03Read.j2, if_pos rfl, if_neg]
            · exact ⟨0, [], 0, rfl, fun z e h => by cases h⟩
            · rintro ⟨_, _, h⟩
              unfold isD at h
              simp only [Bool.and_eq_true, decide_eq_true_eq] at h
              exact hh (E_hundred.2 h.1)
        · rw [decide_eq_false (fun h => by have := E_hundred.1 h; omega), if_neg (by decide), spec_l03Read.j2, if_pos rfl, if_neg]
          · exact ⟨0, [], 0, rfl, fun z e h => by cases h⟩
          · rintro ⟨_, _, h⟩
            unfold isD at h
            simp only [Bool.and_eq_true, decide_eq_true_eq] at h
            omega
      · rw [if_pos i1, if_neg i2]
        simp only [if_true]
        rw [if_neg (by decide), spec_l03Read.j2, if_pos rfl, if_neg (fun h => i2 h.2.1)]
        exact ⟨0, [], 0, rfl, fun z e h => by cases h⟩
    · rw [if_neg i1]
      simp only
      rw [if_neg (by decide), spec_l03Read.j2, if_pos rfl, if_neg (fun h => i1 h.1)]
      exact ⟨0, [], 0, rfl, fun z e h => by cases h⟩
end Go.Proofs.YtlogcnglmdpejaaGreatDoor.Hd
end
