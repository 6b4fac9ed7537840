/- Part 0 of the proof of the card of FnExactV: walks of the functions and plain facts on them. -/
import Derived.Test.YtlogcnglmdpejaaGreatDoorCards
import Derived.JoinedCond
import Derived.KernelRfl
import Init
section
namespace Go.Proofs.YtlogcnglmdpejaaGreatDoor.Ra
open Go
set_option maxRecDepth 100000
theorem joined : joinedFacts Tryz.pinned.checked.prog 3 Tryz.f3 (OpenSpec.ofChange Rows.fnExactVariablesOfSpec).bare Rows.fnExactVariablesOfRow = true := by kernel_rfl
end Go.Proofs.YtlogcnglmdpejaaGreatDoor.Ra
end
section
namespace Go.Proofs.YtlogcnglmdpejaaGreatDoor.Hd
set_option linter.unusedVariables false
def vl (B : Int) : List Int → Int
  | [] => 0
  | d :: r => d + B * vl B r
def Dg (B : Int) (l : List Int) : Prop := ∀ d ∈ l, 0 ≤ d ∧ d < B
theorem Dg.nil (B : Int) : Dg B [] := fun _ h => by cases h
theorem Dg.cons {B : Int} {d : Int} {l : List Int} (h0 : 0 ≤ d) (h1 : d < B) (h : Dg B l) : Dg B (d :: l) := by
  intro x hx
  rcases List.mem_cons.1 hx with rfl | hx
  · exact ⟨h0, h1⟩
  · exact h x hx
theorem Dg.head {B : Int} {d : Int} {l : List Int} (h : Dg B (d :: l)) : 0 ≤ d ∧ d < B := h d List.mem_cons_self
theorem Dg.tail {B : Int} {d : Int} {l : List Int} (h : Dg B (d :: l)) : Dg B l := fun x hx => h x (List.mem_cons_of_mem _ hx)
theorem Dg.append {B : Int} {a b : List Int} (ha : Dg B a) (hb : Dg B b) : Dg B (a ++ b) := by
  intro x hx
  rcases List.mem_append.1 hx with h | h
  · exact ha x h
  · exact hb x h
theorem Dg.take {B : Int} {a : List Int} (ha : Dg B a) (n : Nat) : Dg B (a.take n) := fun x hx => ha x (List.mem_of_mem_take hx)
theorem Dg.drop {B : Int} {a : List Int} (ha : Dg B a) (n : Nat) : Dg B (a.drop n) := fun x hx => ha x (List.mem_of_mem_drop hx)
theorem Dg.set {B : Int} {a : List Int} (ha : Dg B a) (n : Nat) {v : Int} (h0 : 0 ≤ v) (h1 : v < B) : Dg B (a.set n v) := by
  intro x hx
  rcases List.mem_or_eq_of_mem_set hx with h | rfl
  · exact ha x h
  · exact ⟨h0, h1⟩
theorem Dg.replicate {B : Int} (hB : 0 < B) (n : Nat) : Dg B (List.replicate n (0 : Int)) := by
  intro x hx
  rw [List.eq_of_mem_replicate hx]
  omega
theorem Dg.getD {B : Int} (hB : 0 < B) {a : List Int} (ha : Dg B a) (i : Nat) : 0 ≤ a.getD i 0 ∧ a.getD i 0 < B := by
  rw [List.getD_eq_getElem?_getD]
  rcases h : a[i]? with _ | x
  · simp; omega
  · exact ha x (List.mem_of_getElem? h)
theorem vl_nonneg {B : Int} {l : List Int} (h : Dg B l) : 0 ≤ vl B l := by
  induction l with
  | nil => exact Int.le_refl _
  | cons d r ih =>
    have h1 := ih h.tail
    have h2 := h.head
    have h3 : 0 ≤ B * vl B r := Int.mul_nonneg (by omega) h1
    show 0 ≤ d + B * vl B r
    omega
theorem vl_lt {B : Int} {l : List Int} (h : Dg B l) : vl B l < B ^ l.length := by
  induction l with
  | nil => simp [vl]
  | cons d r ih =>
    have h1 := ih h.tail
    have h2 := h.head
    show d + B * vl B r < B ^ (r.length + 1)
    rw [Int.pow_succ]
    have h3 : B * (vl B r + 1) ≤ B * B ^ r.length := Int.mul_le_mul_of_nonneg_left (by omega) (by omega)
    rw [Int.mul_add, Int.mul_one] at h3
    rw [Int.mul_comm (B ^ r.length)]
    omega
theorem vl_append (B : Int) (a b : List Int) : vl B (a ++ b) = vl B a + B ^ a.length * vl B b := by
  induction a with
  | nil => simp [vl]
  | cons d r ih =>
    show d + B * vl B (r ++ b) = d + B * vl B r + B ^ (r.length + 1) * vl B b
    rw [ih, Int.mul_add, Int.pow_succ, ← Int.mul_assoc, Int.mul_comm B (B ^ r.length)]
    omega
theorem vl_snoc (B : Int) (a : List Int) (d : Int) : vl B (a ++ [d]) = vl B a + B ^ a.length * d := by
  rw [vl_append]
  simp [vl]
theorem vl_replicate (B : Int) (n : Nat) : vl B (List.replicate n (0 : Int)) = 0 := by
  induction n with
  | zero => rfl
  | succ n ih => show 0 + B * vl B (List.replicate n 0) = 0; rw [ih]; simp
theorem vl_split (B : Int) (a : List Int) (n : Nat) (h : n ≤ a.length) : vl B a = vl B (a.take n) + B ^ n * vl B (a.drop n) := by
  have h1 := vl_append B (a.take n) (a.drop n)
  rw [List.take_append_drop, List.length_take, Nat.min_eq_left h] at h1
  exact h1
theorem take_succ_getD (a : List Int) (i : Nat) (h : i < a.length) : a.take (i + 1) = a.take i ++ [a.getD i 0] := by
  rw [List.take_succ_eq_append_getElem h, List.getD_eq_getElem?_getD, List.getElem?_eq_getElem h]
  rfl
theorem vl_take_succ (B : Int) (a : List Int) (i : Nat) (h : i < a.length) : vl B (a.take (i + 1)) = vl B (a.take i) + B ^ i * a.getD i 0 := by
  rw [take_succ_getD a i h, vl_snoc, List.length_take, Nat.min_eq_left (by omega)]
theorem vl_set (B : Int) (a : List Int) (i : Nat) (v : Int) (h : i < a.length) : vl B (a.set i v) = vl B a + B ^ i * (v - a.getD i 0) := by
  induction a generalizing i with
  | nil => simp at h
  | cons d r ih =>
    cases i with
    | zero => simp [vl]; omega
    | succ i =>
      have h1 := ih i (by simpa using h)
      show d + B * vl B (r.set i v) = d + B * vl B r + B ^ (i + 1) * (v - r.getD i 0)
      rw [h1, Int.mul_add, Int.pow_succ, ← Int.mul_assoc, Int.mul_comm B (B ^ i)]
      omega
def Cn (l : List Int) : Prop := l.getLast? ≠ some 0
def dgs (B : Nat) (n : Nat) : List Int := if h : n = 0 ∨ B < 2 then [] else ((n % B : Nat) : Int) :: dgs B (n / B)
termination_by n
decreasing_by exact Nat.div_lt_self (by omega) (by omega)
theorem dgs_zero (B : Nat) : dgs B 0 = [] := by unfold dgs; simp
theorem dgs_pos {B n : Nat} (hB : 2 ≤ B) (hn : 0 < n) : dgs B n = ((n % B : Nat) : Int) :: dgs B (n / B) := by
  conv => lhs; unfold dgs
  rw [dif_neg (by omega)]
theorem dgs_dg {B : Nat} (hB : 2 ≤ B) (n : Nat) : Dg B (dgs B n) := by
  induction n using Nat.strongRecOn with
  | _ n ih =>
    rcases Nat.eq_zero_or_pos n with rfl | hn
    · rw [dgs_zero]; exact Dg.nil B
    · rw [dgs_pos hB hn]
      have := Nat.mod_lt n (show 0 < B by omega)
      exact Dg.cons (by omega) (by omega) (ih _ (Nat.div_lt_self hn (by omega)))
theorem vl_dgs {B : Nat} (hB : 2 ≤ B) (n : Nat) : vl B (dgs B n) = n := by
  induction n using Nat.strongRecOn with
  | _ n ih =>
    rcases Nat.eq_zero_or_pos n with rfl | hn
    · rw [dgs_zero]; rfl
    · rw [dgs_pos hB hn]
      show ((n % B : Nat) : Int) + (B : Int) * vl B (dgs B (n / B)) = n
      rw [ih _ (Nat.div_lt_self hn (by omega))]
      have := Nat.mod_add_div n B
      omega
theorem dgs_eq_nil {B n : Nat} (hB : 2 ≤ B) : dgs B n = [] ↔ n = 0 := by
  constructor
  · intro h
    have := vl_dgs hB n
    rw [h] at this
    simp [vl] at this
    omega
  · rintro rfl
    exact dgs_zero B
theorem dgs_length_eq_zero {B n : Nat} (hB : 2 ≤ B) : (dgs B n).length = 0 ↔ n = 0 := by
  rw [List.length_eq_zero_iff, dgs_eq_nil hB]
theorem getLast?_cons_of_ne {d : Int} {l : List Int} (h : l ≠ []) : (d :: l).getLast? = l.getLast? := by
  cases l with
  | nil => exact absurd rfl h
  | cons e r => rfl
theorem dgs_cn {B : Nat} (hB : 2 ≤ B) (n : Nat) : Cn (dgs B n) := by
  induction n using Nat.strongRecOn with
  | _ n ih =>
    rcases Nat.eq_zero_or_pos n with rfl | hn
    · rw [dgs_zero]; simp [Cn]
    · have h := ih _ (Nat.div_lt_self hn (show 1 < B by omega))
      rw [dgs_pos hB hn]
      unfold Cn at h ⊢
      rcases Nat.eq_zero_or_pos (n / B) with h0 | h0
      · rw [h0, dgs_zero]
        have : n % B = n := Nat.mod_eq_of_lt ((Nat.div_eq_zero_iff_lt (by omega)).1 h0)
        simp [this]
        omega
      · rw [getLast?_cons_of_ne (fun e => by rw [dgs_eq_nil hB] at e; omega)]
        exact h
theorem cn_tail {d : Int} {l : List Int} (h : Cn (d :: l)) : Cn l := by
  cases l with
  | nil => simp [Cn]
  | cons e r => exact h
theorem dgs_vl {B : Nat} (hB : 2 ≤ B) {l : List Int} (hd : Dg B l) (hc : Cn l) : dgs B (vl B l).toNat = l := by
  induction l with
  | nil => exact dgs_zero B
  | cons d r ih =>
    have hr := ih hd.tail (cn_tail hc)
    have hn := vl_nonneg hd.tail
    obtain ⟨h0, h1⟩ := hd.head
    have hmul : 0 ≤ (B : Int) * vl B r := Int.mul_nonneg (by omega) hn
    obtain ⟨m, hm⟩ := Int.eq_ofNat_of_zero_le hn
    obtain ⟨d', rfl⟩ := Int.eq_ofNat_of_zero_le h0
    have hv : (vl B ((d' : Int) :: r)).toNat = d' + B * m := by
      show ((d' : Int) + (B : Int) * vl B r).toNat = _
      rw [hm]
      have : (B : Int) * (m : Int) = ((B * m : Nat) : Int) := by simp
      omega
    have hpos : 0 < d' + B * m := by
      rcases Nat.eq_zero_or_pos m with h2 | h2
      · rcases Nat.eq_zero_or_pos d' with h3 | h3
        · exfalso
          have hrn : r = [] := by
            rw [hm, h2] at hr
            simpa [dgs_zero] using hr.symm
          subst hrn h3
          exact hc rfl
        · omega
      · have := Nat.mul_pos (show 0 < B by omega) h2
        omega
    rw [hv, dgs_pos hB hpos]
    have e1 : (d' + B * m) % B = d' := by rw [Nat.add_mul_mod_self_left]; exact Nat.mod_eq_of_lt (by omega)
    have e2 : (d' + B * m) / B = m := by rw [Nat.add_mul_div_left _ _ (by omega)]; simp [Nat.div_eq_of_lt (show d' < B by omega)]
    rw [e1, e2]
    rw [hm] at hr
    simpa using hr
theorem dgs_length_le {B n k : Nat} (hB : 2 ≤ B) (h : n < B ^ k) : (dgs B n).length ≤ k := by
  induction k generalizing n with
  | zero => have : n = 0 := by simpa using h
            rw [this, dgs_zero]; simp
  | succ k ih =>
    rcases Nat.eq_zero_or_pos n with rfl | hn
    · rw [dgs_zero]; simp
    · rw [dgs_pos hB hn]
      have := ih (n := n / B) (by rw [Nat.div_lt_iff_lt_mul (by omega)]; rwa [Nat.pow_succ] at h)
      simp; omega
theorem dgs_lt_pow {B : Nat} (hB : 2 ≤ B) (n : Nat) : n < B ^ (dgs B n).length := by
  have h := vl_lt (dgs_dg hB n)
  rw [vl_dgs hB] at h
  have h2 : ((B ^ (dgs B n).length : Nat) : Int) = (B : Int) ^ (dgs B n).length := by simp
  omega
def trim (l : List Int) : List Int := (l.reverse.dropWhile (· == 0)).reverse
theorem trim_nil : trim [] = [] := rfl
theorem trim_snoc_zero (l : List Int) : trim (l ++ [0]) = trim l := by simp [trim]
theorem trim_snoc (l : List Int) {d : Int} (h : d ≠ 0) : trim (l ++ [d]) = l ++ [d] := by simp [trim, h]
theorem snoc_cases (l : List Int) : l = [] ∨ ∃ a d, l = a ++ [d] := by
  rcases l.eq_nil_or_concat with h | ⟨a, d, h⟩
  · exact .inl h
  · exact .inr ⟨a, d, by simpa using h⟩
theorem trim_spec (B : Nat) (n : Nat) : ∀ l : List Int, l.length = n → Dg B l → Dg B (trim l) ∧ Cn (trim l) ∧ vl B (trim l) = vl B l ∧ trim l = l.take (trim l).length := by
  induction n with
  | zero =>
    intro l hl _
    rw [List.length_eq_zero_iff.1 hl]
    exact ⟨Dg.nil B, by simp [trim_nil, Cn], rfl, rfl⟩
  | succ n ih =>
    intro l hl hd
    rcases snoc_cases l with rfl | ⟨a, d, rfl⟩
    · simp at hl
    · have hla : a.length = n := by simpa using hl
      by_cases h : d = 0
      · subst h
        obtain ⟨h1, h2, h3, h4⟩ := ih a hla (fun x hx => hd x (List.mem_append_left _ hx))
        rw [trim_snoc_zero]
        refine ⟨h1, h2, by rw [h3, vl_snoc]; simp, ?_⟩
        have hle : (trim a).length ≤ a.length := by rw [h4]; simp; omega
        rw [List.take_append_of_le_length hle]
        exact h4
      · rw [trim_snoc a h]
        exact ⟨hd, by simp [Cn, h], rfl, (List.take_length).symm⟩
theorem trim_eq {B : Nat} (hB : 2 ≤ B) {l : List Int} (hd : Dg B l) : trim l = dgs B (vl B l).toNat := by
  obtain ⟨h1, h2, h3, _⟩ := trim_spec B l.length l rfl hd
  rw [← h3]
  exact (dgs_vl hB h1 h2).symm
def bits (n : Nat) : Nat := if n = 0 then 0 else n.log2 + 1
theorem bits_zero : bits 0 = 0 := rfl
theorem lt_bits (n : Nat) : n < 2 ^ bits n := by
  unfold bits
  split
  · rename_i h; simp [h]
  · exact Nat.lt_log2_self
theorem bits_le {n : Nat} (hn : 0 < n) : 2 ^ (bits n - 1) ≤ n := by
  unfold bits
  rw [if_neg (by omega)]
  simpa using Nat.log2_self_le (by omega)
theorem bits_pos {n : Nat} (hn : 0 < n) : 0 < bits n := by
  unfold bits
  rw [if_neg (by omega)]
  omega
theorem bits_unique {n k : Nat} (h1 : n < 2 ^ k) (h2 : k = 0 ∨ 2 ^ (k - 1) ≤ n) : bits n = k := by
  rcases Nat.eq_zero_or_pos n with rfl | hn
  · rw [bits_zero]
    rcases h2 with h2 | h2
    · exact h2.symm
    · have := Nat.two_pow_pos (k - 1); omega
  · have a := lt_bits n
    have b := bits_le hn
    have c := bits_pos hn
    have hk : 0 < k := by
      rcases Nat.eq_zero_or_pos k with rfl | h
      · simp at h1; omega
      · exact h
    have h3 : 2 ^ (k - 1) ≤ n := by rcases h2 with h | h; omega; exact h
    rcases Nat.lt_trichotomy (bits n) k with h | h | h
    · have := Nat.pow_le_pow_right (show 0 < 2 by omega) (show bits n ≤ k - 1 by omega); omega
    · exact h
    · have := Nat.pow_le_pow_right (show 0 < 2 by omega) (show k ≤ bits n - 1 by omega); omega
theorem bits_le_iff {n k : Nat} : bits n ≤ k ↔ n < 2 ^ k := by
  constructor
  · intro h
    exact Nat.lt_of_lt_of_le (lt_bits n) (Nat.pow_le_pow_right (by omega) h)
  · intro h
    rcases Nat.eq_zero_or_pos n with rfl | hn
    · simp [bits_zero]
    · have b := bits_le hn
      have : bits n - 1 < k := (Nat.pow_lt_pow_iff_right (by omega : 1 < 2)).1 (Nat.lt_of_le_of_lt b h)
      omega
theorem bits_half {n : Nat} (hn : 0 < n) : bits n = bits (n / 2) + 1 := by
  have a := lt_bits (n / 2)
  refine bits_unique ?_ (.inr ?_)
  · rw [Nat.pow_succ]; omega
  · rw [Nat.add_sub_cancel]
    rcases Nat.eq_zero_or_pos (n / 2) with h | h
    · rw [h, bits_zero]; simp; omega
    · have b := bits_le h
      have c := bits_pos h
      have : 2 ^ bits (n / 2) = 2 ^ (bits (n / 2) - 1) * 2 := by rw [← Nat.pow_succ]; congr 1; omega
      omega
theorem bits_div_pow (n k : Nat) : bits (n / 2 ^ k) = bits n - k := by
  induction k with
  | zero => simp
  | succ k ih =>
    rw [Nat.pow_succ, ← Nat.div_div_eq_div_mul]
    rcases Nat.eq_zero_or_pos (n / 2 ^ k) with h | h
    · rw [h] at ih ⊢
      simp [bits_zero] at ih ⊢
      omega
    · have := bits_half h
      omega
theorem step_id (u p v B X Y : Int) (h : Y = v + B * X) : u + p * v + p * B * X = u + p * Y := by
  rw [h, Int.mul_add, Int.mul_assoc, Int.add_assoc]
def D (n : Nat) : List Int := dgs 4294967296 n
def E (n : Nat) : List Int := dgs 16777216 n
theorem D_dg (n : Nat) : Dg 4294967296 (D n) := dgs_dg (B := 4294967296) (by omega) n
theorem E_dg (n : Nat) : Dg 16777216 (E n) := dgs_dg (B := 16777216) (by omega) n
theorem D_vl (n : Nat) : vl 4294967296 (D n) = n := vl_dgs (B := 4294967296) (by omega) n
theorem E_vl (n : Nat) : vl 16777216 (E n) = n := vl_dgs (B := 16777216) (by omega) n
theorem D_zero : D 0 = [] := dgs_zero _
theorem E_zero : E 0 = [] := dgs_zero _
theorem E_nil {n : Nat} : E n = [] ↔ n = 0 := dgs_eq_nil (by omega)
theorem D_len0 {n : Nat} : (D n).length = 0 ↔ n = 0 := dgs_length_eq_zero (by omega)
theorem E_len0 {n : Nat} : (E n).length = 0 ↔ n = 0 := dgs_length_eq_zero (by omega)
theorem D_trim {l : List Int} (hd : Dg 4294967296 l) : trim l = D (vl 4294967296 l).toNat := trim_eq (B := 4294967296) (by omega) hd
theorem E_trim {l : List Int} (hd : Dg 16777216 l) : trim l = E (vl 16777216 l).toNat := trim_eq (B := 16777216) (by omega) hd
theorem D_le {n k : Nat} (h : n < 4294967296 ^ k) : (D n).length ≤ k := dgs_length_le (by omega) h
theorem E_le {n k : Nat} (h : n < 16777216 ^ k) : (E n).length ≤ k := dgs_length_le (by omega) h
theorem D_lt (n : Nat) : n < 4294967296 ^ (D n).length := dgs_lt_pow (by omega) n
theorem E_lt (n : Nat) : n < 16777216 ^ (E n).length := dgs_lt_pow (by omega) n
theorem D_mono {m n : Nat} (h : m ≤ n) : (D m).length ≤ (D n).length := D_le (Nat.lt_of_le_of_lt h (D_lt n))
theorem E_mono {m n : Nat} (h : m ≤ n) : (E m).length ≤ (E n).length := E_le (Nat.lt_of_le_of_lt h (E_lt n))
theorem E_cn (n : Nat) : Cn (E n) := dgs_cn (by omega) n
theorem bits_dgs {B s n : Nat} (hB : B = 2 ^ s) (hs : 0 < s) (hn : 0 < n) : ∃ a t, dgs B n = a ++ [((t : Nat) : Int)] ∧ 0 < t ∧ t < B ∧ bits n = s * a.length + bits t := by
  have hB2 : 2 ≤ B := by rw [hB]; exact Nat.le_trans (by omega : 2 ≤ 2 ^ 1) (Nat.pow_le_pow_right (by omega) hs)
  induction n using Nat.strongRecOn with
  | _ n ih =>
    rw [dgs_pos hB2 hn]
    rcases Nat.eq_zero_or_pos (n / B) with h0 | h0
    · have hlt := (Nat.div_eq_zero_iff_lt (by omega)).1 h0
      rw [h0, dgs_zero, Nat.mod_eq_of_lt hlt]
      exact ⟨[], n, rfl, hn, hlt, by simp⟩
    · obtain ⟨a, t, e, h1, h2, h3⟩ := ih _ (Nat.div_lt_self hn (by omega)) h0
      refine ⟨((n % B : Nat) : Int) :: a, t, by rw [e]; rfl, h1, h2, ?_⟩
      have h4 := bits_div_pow n s
      rw [← hB, h3] at h4
      have := bits_pos h1
      rw [List.length_cons, Nat.mul_add, Nat.mul_one]
      omega
theorem D_bits {n : Nat} (hn : 0 < n) : ∃ a t, D n = a ++ [((t : Nat) : Int)] ∧ 0 < t ∧ t < 2 ^ 32 ∧ bits n = 32 * a.length + bits t :=
  bits_dgs (B := 4294967296) (s := 32) (by decide) (by omega) hn
theorem E_bits {n : Nat} (hn : 0 < n) : ∃ a t, E n = a ++ [((t : Nat) : Int)] ∧ 0 < t ∧ t < 2 ^ 24 ∧ bits n = 24 * a.length + bits t :=
  bits_dgs (B := 16777216) (s := 24) (by decide) (by omega) hn
def cm (a b : Int) : Int := if a < b then -1 else if b < a then 1 else 0
end Go.Proofs.YtlogcnglmdpejaaGreatDoor.Hd
end
