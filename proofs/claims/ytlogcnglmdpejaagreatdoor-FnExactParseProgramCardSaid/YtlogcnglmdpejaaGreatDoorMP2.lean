/- Part 2 of the proof of a card: walks of functions and plain facts on them. -/
import Derived.Lib.SplitLaws
import Derived.Shelf.Strings.Split
import Derived.Test.YtlogcnglmdpejaaGreatDoorProg
import Derived.Test.YtlogcnglmdpejaaGreatDoorMV0
import Derived.Test.YtlogcnglmdpejaaGreatDoorMV1
import Derived.Test.YtlogcnglmdpejaaGreatDoorMV2
import Derived.Test.YtlogcnglmdpejaaGreatDoorMV3
import Derived.Test.YtlogcnglmdpejaaGreatDoorMV4
import Derived.Test.YtlogcnglmdpejaaGreatDoorMV5
import Derived.Test.YtlogcnglmdpejaaGreatDoorMV6
import Derived.Test.YtlogcnglmdpejaaGreatDoorMV7
import Derived.Test.YtlogcnglmdpejaaGreatDoorMV8
import Derived.Test.YtlogcnglmdpejaaGreatDoorMV9
import Derived.Test.YtlogcnglmdpejaaGreatDoorMV10
import Derived.Test.YtlogcnglmdpejaaGreatDoorMV11
import Derived.Test.YtlogcnglmdpejaaGreatDoorMV12
import Derived.Test.YtlogcnglmdpejaaGreatDoorMV13
import Derived.Test.YtlogcnglmdpejaaGreatDoorMV14
import Derived.Test.YtlogcnglmdpejaaGreatDoorMV15
import Derived.Test.YtlogcnglmdpejaaGreatDoorMV16
import Derived.Test.YtlogcnglmdpejaaGreatDoorMV17
import Derived.Test.YtlogcnglmdpejaaGreatDoorMV18
import Derived.Test.YtlogcnglmdpejaaGreatDoorMV19
import Derived.Test.YtlogcnglmdpejaaGreatDoorMV20
import Derived.Test.YtlogcnglmdpejaaGreatDoorMV21
import Derived.Test.YtlogcnglmdpejaaGreatDoorMV22
import Derived.Test.YtlogcnglmdpejaaGreatDoorMV23
import Derived.Test.YtlogcnglmdpejaaGreatDoorMP0
import Derived.Test.YtlogcnglmdpejaaGreatDoorMP1
section
namespace Go.Proofs.YtlogcnglmdpejaaGreatDoor.Hd
open Go.RowKit Go.Proofs.YtlogcnglmdpejaaGreatDoorW.PrintWords Go.Proofs.YtlogcnglmdpejaaGreatDoorW.PrintLast Go.Proofs.YtlogcnglmdpejaaGreatDoorW.PrintMore Go.Proofs.YtlogcnglmdpejaaGreatDoor.Pq
set_option linter.unusedVariables false
set_option linter.unusedSimpArgs false
def bl : ByteArray := ⟨#[32]⟩
theorem bl_size : bl.size = 1 := rfl
theorem bt_bl (s : ByteArray) (i : Nat) : (bt s (i : Int) = 32) ↔ s.data.toList[i]? = some 32 := by
  rcases s with ⟨⟨l⟩⟩
  show _ ↔ l[i]? = some 32
  by_cases h : i < l.length
  · rw [bt_list l i h, List.getElem?_eq_getElem h]
    constructor
    · intro e
      congr 1
      apply UInt8.toNat_inj.1
      have : (l[i]'h).toNat = 32 := by omega
      rw [this]
      rfl
    · intro e
      injection e with e
      rw [e]
      rfl
  · rw [List.getElem?_eq_none (by omega)]
    unfold bt
    have h2 : ¬ ((i : Int)).toNat < (⟨⟨l⟩⟩ : ByteArray).size := by rw [Int.toNat_natCast]; exact h
    rw [dif_neg h2]
    constructor
    · intro e; omega
    · intro e; cases e
theorem ix_one (t : ByteArray) : Lib.indexB t bl = Lib.indexByte t.data.toList 32 := Lib.one t bl rfl
theorem ix_miss {s : ByteArray} {a : Nat} (h : ∀ j : Nat, a ≤ j → s.data.toList[j]? ≠ some 32) : Lib.indexB (s.extract a s.size) bl = -1 := by
  rw [ix_one, Lib.extract_to_end]
  have hge := Lib.indexByte_ge (s.data.toList.drop a) 32
  by_cases hm : Lib.indexByte (s.data.toList.drop a) 32 = -1
  · exact hm
  · obtain ⟨o, ho⟩ := Int.eq_ofNat_of_zero_le (show 0 ≤ Lib.indexByte (s.data.toList.drop a) 32 by omega)
    obtain ⟨p, q⟩ := Lib.indexByte_some ho
    rw [List.getElem?_drop] at p
    exact absurd p (h _ (by omega))
theorem ix_hit {s : ByteArray} {a i : Nat} (hai : a ≤ i) (hi : s.data.toList[i]? = some 32) (h : ∀ j : Nat, a ≤ j → j < i → s.data.toList[j]? ≠ some 32) : Lib.indexB (s.extract a s.size) bl = ((i - a : Nat) : Int) := by
  rw [ix_one, Lib.extract_to_end]
  have hge := Lib.indexByte_ge (s.data.toList.drop a) 32
  by_cases hm : Lib.indexByte (s.data.toList.drop a) 32 = -1
  · have := Lib.indexByte_none hm (i - a)
    rw [List.getElem?_drop, show a + (i - a) = i by omega] at this
    exact absurd hi this
  · obtain ⟨o, ho⟩ := Int.eq_ofNat_of_zero_le (show 0 ≤ Lib.indexByte (s.data.toList.drop a) 32 by omega)
    obtain ⟨p, q⟩ := Lib.indexByte_some ho
    rw [List.getElem?_drop] at p
    rw [ho]
    have h1 : ¬ a + o < i := fun hh => h _ (by omega) hh p
    have h2 : ¬ i - a < o := fun hh => by
      have := q _ hh
      rw [List.getElem?_drop, show a + (i - a) = i by omega] at this
      exact this hi
    rw [show o = i - a by omega]
def spl (s : ByteArray) : List ByteArray := Lib.splitB bl 0 (Lib.countB s bl) s
theorem spl_miss {s : ByteArray} {a : Nat} (h : ∀ j : Nat, a ≤ j → s.data.toList[j]? ≠ some 32) : spl (s.extract a s.size) = [s.extract a s.size] := by
  unfold spl
  rw [Lib.countB_miss _ _ (ix_miss h)]
  rfl
theorem spl_hit {s : ByteArray} {a i : Nat} (hai : a ≤ i) (hs : i < s.size) (hi : s.data.toList[i]? = some 32) (h : ∀ j : Nat, a ≤ j → j < i → s.data.toList[j]? ≠ some 32) :
    spl (s.extract a s.size) = s.extract a i :: spl (s.extract (i + 1) s.size) := by
  unfold spl
  have hx := ix_hit hai hi h
  have e1 : (s.extract a s.size).size = s.size - a := by rw [ByteArray.size_extract]; omega
  have e2 : (s.extract a s.size).extract (i - a + 1) (s.size - a) = s.extract (i + 1) s.size := by
    rw [ByteArray.extract_extract]
    congr 1 <;> omega
  rw [Lib.countB_hit _ _ _ (by decide) hx, bl_size, e1, e2, Nat.add_comm 1, Lib.splitB_hit _ _ _ _ _ hx, bl_size, e1, e2, ByteArray.extract_extract]
  congr 2 <;> omega
theorem split_l0 {s : ByteArray} (hs : s.size ≤ 1048576) (n : Nat) : ∀ (k i a : Nat) (x : List ByteArray), s.size - i = n → a ≤ i → i ≤ s.size → n < k → x.length ≤ i → (∀ j : Nat, a ≤ j → j < i → s.data.toList[j]? ≠ some 32) →
    spec_l06Split.l0 k s 32 x (a : Int) (i : Int) = some (x ++ spl (s.extract a s.size)) := by
  induction n with
  | zero =>
    intro k i a x h1 h2 h3 h4 h5 h6
    obtain ⟨k, rfl⟩ : ∃ m, k = m + 1 := ⟨k - 1, by omega⟩
    rw [spec_l06Split.l0, if_neg (by omega), if_pos (by omega), if_pos (by omega), if_pos (by omega), Int.toNat_natCast, spl_miss (a := a)]
    intro j hj
    rcases Nat.lt_or_ge j i with h | h
    · exact h6 j hj h
    · rw [List.getElem?_eq_none (by rw [← size_dl]; omega)]
      intro h; cases h
  | succ n ih =>
    intro k i a x h1 h2 h3 h4 h5 h6
    obtain ⟨k, rfl⟩ : ∃ m, k = m + 1 := ⟨k - 1, by omega⟩
    rw [spec_l06Split.l0, if_pos (by omega), if_pos (by omega), w64s i (by omega)]
    by_cases hb : bt s (i : Int) = 32
    · have hb' := (bt_bl s i).1 hb
      rw [if_pos hb, if_pos (by omega), if_pos (by omega), if_pos (by omega), if_pos (by omega), Int.toNat_natCast, Int.toNat_natCast,
        ih k (i + 1) (i + 1) _ (by omega) (by omega) (by omega) (by omega) (by simp; omega) (fun j h1 h2 => by omega), spl_hit h2 (by omega) hb' h6, List.append_assoc]
      rfl
    · rw [if_neg hb, ih k (i + 1) a x (by omega) (by omega) (by omega) (by omega) (by omega) (fun j hj1 hj2 => ?_)]
      rcases Nat.eq_or_lt_of_le (Nat.le_of_lt_succ hj2) with rfl | h
      · exact fun h => hb ((bt_bl s j).2 h)
      · exact h6 j hj1 h
theorem split_f {s : ByteArray} (hs : s.size ≤ 1048576) : spec_l06Split.f 10000000 s 32 = some (spl s) := by
  unfold spec_l06Split.f
  have := split_l0 hs s.size 10000000 0 0 [] (by omega) (by omega) (by omega) (by omega) (by simp) (fun j h1 h2 => by omega)
  rw [show ((0 : Nat) : Int) = 0 from rfl] at this
  rw [this, List.nil_append]
  congr 2
  rw [ByteArray.extract_zero_size]
theorem spl_len {s : ByteArray} : (spl s).length = Lib.countB s bl + 1 := Lib.splitB_all bl (by decide) 0 _ s rfl
theorem spl_len_le {s : ByteArray} (hs : s.size ≤ 1048576) : (spl s).length ≤ 1048577 := by
  have := Lib.countB_le bl (by decide) s.size s (Nat.le_refl _)
  rw [spl_len]
  omega
theorem splitB_size (k : Nat) : ∀ (s : ByteArray) (x : ByteArray), x ∈ Lib.splitB bl 0 k s → x.size ≤ s.size := by
  induction k with
  | zero => intro s x h; simp only [Lib.splitB, List.mem_singleton] at h; rw [h]; exact Nat.le_refl _
  | succ k ih =>
    intro s x h
    rcases Lib.indexB_cases s bl with hm | ⟨i, hi, hr⟩
    · rw [Lib.splitB_miss _ _ _ _ hm] at h
      simp only [List.mem_singleton] at h
      rw [h]; exact Nat.le_refl _
    · rw [Lib.splitB_hit _ _ _ _ _ hi, List.mem_cons] at h
      rcases h with rfl | h
      · rw [ByteArray.size_extract]; omega
      · have := ih _ _ h
        rw [ByteArray.size_extract] at this
        omega
theorem spl_size {s : ByteArray} (hs : s.size ≤ 1048576) (i : Nat) (h : i < (spl s).length) : (rdOf ByteArray.empty (spl s) (i : Int)).size ≤ 1048576 := by
  rw [rdOf_get h]
  exact Nat.le_trans (splitB_size _ s _ (List.getElem_mem h)) hs
theorem eqs_l0' (n : Nat) : ∀ (k i : Nat) (ws : List ByteArray), ws.length - i = n → i ≤ ws.length → ws.length ≤ 1048577 → n < k → laws_eqStringS.l0 k ws ws (i : Int) = some true := by
  induction n with
  | zero =>
    intro k i ws h1 h2 h3 h4
    obtain ⟨k, rfl⟩ : ∃ m, k = m + 1 := ⟨k - 1, by omega⟩
    rw [laws_eqStringS.l0, if_neg (by omega)]
  | succ n ih =>
    intro k i ws h1 h2 h3 h4
    obtain ⟨k, rfl⟩ : ∃ m, k = m + 1 := ⟨k - 1, by omega⟩
    rw [laws_eqStringS.l0, if_pos (by omega), if_pos (by omega), if_pos (by omega), if_pos rfl, w64s i (by omega), ih k (i + 1) ws (by omega) (by omega) h3 (by omega)]
theorem eq_f' {ws : List ByteArray} (hl : ws.length ≤ 1048577) : laws_eqProgram.f 10000000 ws ws = some true := by
  unfold laws_eqProgram.f laws_eqStringS.f
  have := eqs_l0' ws.length 10000000 0 ws (by omega) (by omega) hl (by omega)
  rw [show ((0 : Nat) : Int) = 0 from rfl] at this
  rw [if_pos rfl, this]
  rfl
theorem mt_l0 (n : Nat) : ∀ (x : Nat) (b : ByteArray), x < 10 ^ n → x < 1000000000000 → b.size + n ≤ 1000 → ∃ r, ∀ k, n < k → laws_markText.l0 k (x : Int) b = some r := by
  induction n with
  | zero =>
    intro x b h1 h2 h3
    refine ⟨(⟨#[109]⟩ : ByteArray) ++ b, fun k hk => ?_⟩
    obtain ⟨k, rfl⟩ : ∃ m, k = m + 1 := ⟨k - 1, by omega⟩
    rw [laws_markText.l0, if_neg (by rw [Nat.pow_zero] at h1; omega), if_pos (by omega)]
  | succ n ih =>
    intro x b h1 h2 h3
    by_cases hx : x = 0
    · refine ⟨(⟨#[109]⟩ : ByteArray) ++ b, fun k hk => ?_⟩
      obtain ⟨k, rfl⟩ : ∃ m, k = m + 1 := ⟨k - 1, by omega⟩
      rw [laws_markText.l0, if_neg (by omega), if_pos (by omega)]
    · have hd : x / 10 < 10 ^ n := by rw [Nat.pow_succ] at h1; omega
      have e : Int.tdiv (x : Int) 10 = ((x / 10 : Nat) : Int) := by rw [Int.tdiv_eq_ediv_of_nonneg (by omega)]; omega
      have hsz : ∀ z : Int, (strOfNums [z]).size = 1 := fun z => rfl
      obtain ⟨r, hr⟩ := ih (x / 10) (strOfNums [(wrap64 (48 + (Int.tmod (x : Int) 10))) % 256] ++ b) hd (by omega) (by rw [size_dl, dl_append, List.length_append, ← size_dl, ← size_dl, hsz]; omega)
      refine ⟨r, fun k hk => ?_⟩
      obtain ⟨k, rfl⟩ : ∃ m, k = m + 1 := ⟨k - 1, by omega⟩
      rw [laws_markText.l0, if_pos (by omega)]
      simp only [Option.bind_some]
      rw [if_pos (by rw [hsz]; omega), e, w64 (by omega) (by omega)]
      exact hr k (by omega)
def mt (x : Nat) : ByteArray := (laws_markText.f 100 ((x : Int) + 1)).getD ⟨#[]⟩
theorem mt_f {x : Nat} (h : x < 100000000) {k : Nat} (hk : 13 ≤ k) : laws_markText.f k ((x : Int) + 1) = some (mt x) := by
  obtain ⟨r, hr⟩ := mt_l0 12 (x + 1) ⟨#[]⟩ (by omega) (by omega) (by decide)
  have e : ∀ k, 13 ≤ k → laws_markText.f k ((x : Int) + 1) = some r := by
    intro k hk
    unfold laws_markText.f
    rw [if_neg (by omega), show (x : Int) + 1 = ((x + 1 : Nat) : Int) by omega]
    exact hr k (by omega)
  rw [e k hk]
  unfold mt
  rw [e 100 (by omega)]
  rfl
def mks (L : Nat) : List ByteArray := (List.range L).map mt
theorem mks_len (L : Nat) : (mks L).length = L := by simp [mks]
theorem mks_at {L i : Nat} (h : i < L) : rdOf ByteArray.empty (mks L) (i : Int) = mt i := by
  rw [rdOf_get (by rw [mks_len]; exact h)]
  simp [mks]
theorem mark_l0 (n : Nat) : ∀ (k i : Nat) (x : List ByteArray), x.length - i = n → i ≤ x.length → x.length ≤ 1048577 → n + 20 < k → x.take i = mks i →
    laws_markStringS.l0 k x ((i : Int) + 1) (i : Int) = some ((x.length : Int) + 1, mks x.length) := by
  induction n with
  | zero =>
    intro k i x h1 h2 h3 h4 h5
    obtain ⟨k, rfl⟩ : ∃ m, k = m + 1 := ⟨k - 1, by omega⟩
    have hi : i = x.length := by omega
    subst hi
    rw [List.take_length] at h5
    rw [laws_markStringS.l0, if_neg (by omega), ← h5]
  | succ n ih =>
    intro k i x h1 h2 h3 h4 h5
    obtain ⟨k, rfl⟩ : ∃ m, k = m + 1 := ⟨k - 1, by omega⟩
    have hi : i < x.length := by omega
    rw [laws_markStringS.l0, if_pos (by omega), mt_f (by omega) (by omega)]
    simp only [Option.bind_some]
    have e : wrap64 ((i : Int) + 1 + 1) = ((i + 1 : Nat) : Int) + 1 := by rw [w64 (by omega) (by omega)]; omega
    have hx : i < (x.set i (mt i)).length := by rw [List.length_set]; exact hi
    have := ih k (i + 1) (x.set i (mt i)) (by rw [List.length_set]; omega) (by rw [List.length_set]; omega) (by rw [List.length_set]; exact h3) (by omega) (by
      rw [List.take_succ_eq_append_getElem hx, List.take_set_of_le (Nat.le_refl _), h5]
      simp [mks, List.range_succ])
    rw [List.length_set] at this
    rw [if_pos (by omega), e, w64s i (by omega), Int.toNat_natCast, this]
theorem mark_f {ws : List ByteArray} (h : ws.length ≤ 1048577) : laws_markProgram.f 10000000 ws 1 = some ((ws.length : Int) + 1, mks ws.length) := by
  unfold laws_markProgram.f laws_markStringS.f
  have := mark_l0 ws.length 10000000 0 ws (by omega) (by omega) h (by omega) rfl
  rw [show ((0 : Nat) : Int) + 1 = 1 from rfl, show ((0 : Nat) : Int) = 0 from rfl] at this
  rw [this]
  rfl
end Go.Proofs.YtlogcnglmdpejaaGreatDoor.Hd
end
section
namespace Go.Proofs
open Go.Shelf
def Tryz.lays146_ren : Go.Shelf.Ren := ⟨fun | 146 => 58 | 221 => 104 | 268 => 158 | 138 => 159 | 143 => 160 | 195 => 206 | 197 => 207 | 218 => 208 | 219 => 209 | 260 => 244 | 217 => 245 | 225 => 246 | 224 => 247 | 267 => 248 | 266 => 271 | 314 => 272 | n => n, fun | 9 => 9 | 31 => 22 | 3 => 3 | 4 => 4 | 0 => 0 | 105 => 227 | 21 => 21 | 5 => 5 | 46 => 154 | 119 => 274 | 139 => 277 | 138 => 276 | 146 => 278 | 51 => 202 | n => n, fun | 1 => 1 | 3 => 2 | 4 => 3 | n => n⟩
theorem Tryz.lays146 : Go.Proofs.Lays.n146 Tryz.prog Tryz.lays146_ren := {
  mixed := by kernel_rfl
  f138 := Tryz.func159.trans (congrArg some (by kernel_rfl))
  f143 := Tryz.func160.trans (congrArg some (by kernel_rfl))
  f146 := Tryz.func58.trans (congrArg some (by kernel_rfl))
  f195 := Tryz.func206.trans (congrArg some (by kernel_rfl))
  f197 := Tryz.func207.trans (congrArg some (by kernel_rfl))
  f217 := Tryz.func245.trans (congrArg some (by kernel_rfl))
  f218 := Tryz.func208.trans (congrArg some (by kernel_rfl))
  f219 := Tryz.func209.trans (congrArg some (by kernel_rfl))
  f221 := Tryz.func104.trans (congrArg some (by kernel_rfl))
  f224 := Tryz.func247.trans (congrArg some (by kernel_rfl))
  f225 := Tryz.func246.trans (congrArg some (by kernel_rfl))
  f260 := Tryz.func244.trans (congrArg some (by kernel_rfl))
  f266 := Tryz.func271.trans (congrArg some (by kernel_rfl))
  f267 := Tryz.func248.trans (congrArg some (by kernel_rfl))
  f268 := Tryz.func158.trans (congrArg some (by kernel_rfl))
  f314 := Tryz.func272.trans (congrArg some (by kernel_rfl))
  t0 := Tryz.underlying0
  a0 := Tryz.isAgg0
  z0 := Tryz.sizeOf0
  v0 := Tryz.zeroValue0
  t3 := Tryz.underlying3
  a3 := Tryz.isAgg3
  z3 := Tryz.sizeOf3
  v3 := Tryz.zeroValue3
  t4 := Tryz.underlying4
  a4 := Tryz.isAgg4
  z4 := Tryz.sizeOf4
  v4 := Tryz.zeroValue4
  t5 := Tryz.underlying5
  a5 := Tryz.isAgg5
  z5 := Tryz.sizeOf5
  v5 := Tryz.zeroValue5
  t9 := Tryz.underlying9
  a9 := Tryz.isAgg9
  z9 := Tryz.sizeOf9
  v9 := Tryz.zeroValue9
  t21 := Tryz.underlying21
  a21 := Tryz.isAgg21
  z21 := Tryz.sizeOf21
  v21 := Tryz.zeroValue21
  t31 := Tryz.underlying22
  a31 := Tryz.isAgg22
  z31 := Tryz.sizeOf22
  v31 := Tryz.zeroValue22
  t46 := Tryz.underlying154
  a46 := Tryz.isAgg154
  z46 := Tryz.sizeOf154
  v46 := Tryz.zeroValue154
  t51 := Tryz.underlying202
  a51 := Tryz.isAgg202
  z51 := Tryz.sizeOf202
  v51 := Tryz.zeroValue202
  t105 := Tryz.underlying227
  a105 := Tryz.isAgg227
  z105 := Tryz.sizeOf227
  v105 := Tryz.zeroValue227
  t119 := Tryz.underlying274
  a119 := Tryz.isAgg274
  z119 := Tryz.sizeOf274
  t138 := Tryz.underlying276
  a138 := Tryz.isAgg276
  z138 := Tryz.sizeOf276
  v138 := Tryz.zeroValue276
  t139 := Tryz.underlying277
  a139 := Tryz.isAgg277
  z139 := Tryz.sizeOf277
  v139 := Tryz.zeroValue277
  t146 := Tryz.underlying278
  a146 := Tryz.isAgg278
  z146 := Tryz.sizeOf278
  v146 := Tryz.zeroValue278
  g1 := by kernel_rfl
  g3 := by kernel_rfl
  g4 := by kernel_rfl }
open Go.RowKit Go.Lib in
theorem Tryz.strings_Split (s sep : ByteArray) (m : Int) (w : World) (hs : s.size < 4294967281) (hm : w.cell? ⟨1, 0, none⟩ = some (.int .i64 m)) (h1 : 1 ≤ sep.size) :
    Calls Tryz.prog 58 #[.string s, .string sep] w fun e w' =>
      e = .returned (.slice (some ⟨w.heap.size, 0, none⟩) (Lib.countB s sep + 1) (Lib.countB s sep + 1)) ∧ w' = w.alloc (.cells ((Lib.splitB sep 0 (Lib.countB s sep) s).map Value.string).toArray 9) := Any.strings_Split Tryz.lays146 (by kernel_rfl) s sep m w hs hm h1
end Go.Proofs
end
section
namespace Go.Proofs.YtlogcnglmdpejaaGreatDoor.Hd
open Go.RowKit Go.Proofs.YtlogcnglmdpejaaGreatDoorW.PrintWords Go.Proofs.YtlogcnglmdpejaaGreatDoorW.PrintLast Go.Proofs.YtlogcnglmdpejaaGreatDoorW.PrintMore Go.Proofs.YtlogcnglmdpejaaGreatDoor.Pq
attribute [local go_sem] max2_int min2_int max_two min_two max_three min_three max_four min_four
set_option linter.unusedVariables false
set_option linter.unusedSimpArgs false
structure Wdx (w : World) (A : Option Addr) (c : Nat) (ws : List ByteArray) : Prop where
  row : Kd.C Kd.string w A ws.length ws
  cap : ws.length ≤ c
  size : ∀ i : Nat, i < ws.length → (rdOf ByteArray.empty ws (i : Int)).size ≤ 1100000
theorem Wdx.below {w w' : World} {A : Option Addr} {c : Nat} {ws : List ByteArray} (h : Wdx w A c ws) (hb : Below w.heap.size w w') : Wdx w' A c ws := ⟨Kd.C_below h.row hb, h.cap, h.size⟩
set_option maxHeartbeats 1000000 in
theorem IsProgram_x {w : World} {A : Option Addr} {c : Nat} {ws : List ByteArray} (h : Wdx w A c ws) : Calls Tryz.prog 39 #[.agg #[.slice A ws.length c]] w fun e w' => e = .returned (.bool (isP ws)) ∧ Below w.heap.size w w' := by
  have H := As_.mk h
  clear h
  go_enter Tryz.func39, Tryz.ntmps39
  go_wp2_with fail
  refine (depthOf_calls (H.out.below (ba_ (Below.refl _ _) _)).row H.out.cap H.out.size).mono ?_
  rintro e w1 ⟨d, rfl, _, hb⟩
  have HB := As_.mk ((ba_ (Below.refl w.heap.size w) (.cells #[.slice A ws.length c] 28)).trans (hb.mono (by simp)))
  clear hb
  go_wp2_with fail
  go_ret
  exact ⟨rfl, HB.out⟩
set_option maxHeartbeats 1000000 in
theorem l08Is_x {w : World} {A : Option Addr} {c : Nat} {ws : List ByteArray} (h : Wdx w A c ws) : Calls Tryz.prog 50 #[.agg #[.slice A ws.length c]] w fun e w' => e = .returned (.bool (isP ws)) ∧ Below w.heap.size w w' := by
  have H := As_.mk h
  clear h
  have HD := As_.mk (depS_pos ws)
  go_enter Tryz.func50, Tryz.ntmps50
  go_wp2_with fail
  refine (l08Depth_calls (H.out.below (ba_ (Below.refl _ _) _)).row H.out.size).mono ?_
  rintro e w1 ⟨rfl, hb⟩
  have HB := As_.mk ((ba_ (Below.refl w.heap.size w) (.cells #[.slice A ws.length c] 28)).trans (hb.mono (by simp)))
  clear hb
  go_wp2_with fail
  go_ret
  exact ⟨by rw [← HD.out]; rfl, HB.out⟩
theorem Split_calls {s : ByteArray} {m : Int} {w : World} (hs : s.size ≤ 1048576) (hm : w.cell? ⟨1, 0, none⟩ = some (.int .i64 m)) :
    Calls Tryz.prog 58 #[.string s, .string (⟨#[32]⟩ : ByteArray)] w fun e w' => ∃ v, e = .returned v ∧ Kd.R Kd.string 9 w' w.heap.size (fun _ => True) v (spl s) ∧ Below w.heap.size w w' := by
  refine (Tryz.strings_Split s ⟨#[32]⟩ m w (by omega) hm (by decide)).mono ?_
  rintro e w' ⟨rfl, rfl⟩
  have hlen := spl_len (s := s)
  have hle := spl_len_le hs
  refine ⟨_, rfl, ?_, ba_ (Below.refl _ _) _⟩
  refine Kd.R_of_own ⟨by simp [encs], .inr ⟨w.heap.size, Lib.countB s bl + 1, ((spl s).map Value.string).toArray, ?_, Nat.le_refl _, heap_alloc_new w _, by omega, ?_, by simp; omega, ?_⟩⟩ (fun _ _ => trivial)
  · show Value.slice _ (Lib.countB s bl + 1) (Lib.countB s bl + 1) = _
    rw [← hlen]
  · simp only [maxLen]; omega
  · simp [encs]
    rw [List.take_of_length_le (by simp)]
theorem hm_below {w w' : World} {v : Value} (hm : w.cell? ⟨1, 0, none⟩ = some v) (hb : Below w.heap.size w w') : w'.cell? ⟨1, 0, none⟩ = some v := (hb.cell (cell_lt hm)).trans hm
def pp1 (s : ByteArray) : List ByteArray := if isP (spl s) = true then spl s else []
def pp2 (s : ByteArray) : Int := if isP (spl s) = true then 0 else 6
set_option maxHeartbeats 1000000 in
theorem ParseProgram_impl {s : ByteArray} {m : Int} {w : World} (hs : s.size ≤ 1048576) (hm : w.cell? ⟨1, 0, none⟩ = some (.int .i64 m)) :
    Calls Tryz.prog 18 #[.string s] w fun e w' => ∃ v, e = .returned (.tuple #[.agg #[v], .int .i64 (pp2 s)]) ∧ Kd.R Kd.string 9 w' w.heap.size (fun _ => True) v (pp1 s) ∧ Below w.heap.size w w' := by
  have HS := As_.mk hs
  have HM := As_.mk hm
  clear hs hm
  obtain ⟨b, hb⟩ : ∃ b, isP (spl s) = b := ⟨_, rfl⟩
  have HI := As_.mk hb
  have HV1 : As_ (pp1 s = if b = true then spl s else []) := ⟨by unfold pp1; rw [hb]⟩
  have HV2 : As_ (pp2 s = if b = true then 0 else 6) := ⟨by unfold pp2; rw [hb]⟩
  clear hb
  go_enter Tryz.func18, Tryz.ntmps18
  go_wp2_with fail
  refine (Split_calls HS.out (hm_below HM.out (ba_ (Below.refl w.heap.size w) (.cells #[.slice none 0 0] 28)))).mono ?_
  rintro e w1 ⟨v, rfl, hR, hb⟩
  obtain ⟨A, c, rfl⟩ := Kd.R_slice hR
  have hba := (ba_ (Below.refl w.heap.size w) (.cells #[.slice none 0 0] 28)).trans (hb.mono (by simp))
  have hblk := (hb.block w.heap.size (by simp)).trans (heap_alloc_new w _)
  have HR : As_ (Kd.R Kd.string 9 w1 w.heap.size (fun k => w.heap.size + 1 ≤ k) (.slice A (spl s).length c) (spl s)) := ⟨Kd.R_lower (Kd.R_mono (Kd.R_bound hR) (fun k hk => by have := hk.2.1; simpa using this)) (by simp)⟩
  have HB := As_.mk hba
  have HBK := As_.mk hblk
  have k0 := kc_ hblk 0
  have f0 := kf_ hblk 0
  simp only [List.getElem?_toArray, List.getElem?_cons_zero, List.getElem?_cons_succ] at k0
  clear hb hba hblk hR
  obtain ⟨N, hNN⟩ : ∃ N, w.heap.size = N := ⟨_, rfl⟩
  have HN := As_.mk hNN
  rw [hNN] at HBK HR HB k0 f0 ⊢
  clear hNN
  obtain ⟨_, hl1, hC1⟩ := Kd.R_reads' HR.out
  have HX : As_ (Wdx w1 A c (spl s)) := ⟨⟨hC1, hl1, fun i hi => Nat.le_trans (spl_size HS.out i hi) (by decide)⟩⟩
  clear hl1 hC1 k0 f0
  go_wp2_with fail
  refine (IsProgram_x (HX.out.below (ba_ (Below.refl _ _) _))).mono ?_
  rintro e w2 ⟨rfl, hb⟩
  rw [HI.out]
  have hbA := (ba_ (Below.refl w1.heap.size w1) (.cells #[.slice A (spl s).length c] 28)).trans (hb.mono (by simp))
  have hblk6 := (hb.block w1.heap.size (by simp)).trans (heap_alloc_new w1 _)
  have HBK2 := As_.mk ((hbA.block N (heap_lt HBK.out)).trans HBK.out)
  have j0 := kc_ hblk6 0
  simp only [List.getElem?_toArray, List.getElem?_cons_zero, List.getElem?_cons_succ] at j0
  have HB2 := As_.mk (HB.out.trans (hbA.mono (by have := HB.out.size; rw [HN.out] at this; exact this)))
  have HR2 := As_.mk (Kd.R_below HR.out hbA)
  have k0 := kc_ HBK2.out 0
  have f0 := kf_ HBK2.out 0
  simp only [List.getElem?_toArray, List.getElem?_cons_zero, List.getElem?_cons_succ] at k0
  clear hb hbA hblk6
  generalize w1.heap.size = N1 at j0 ⊢
  have HB3 : As_ (Below w.heap.size w w2) := ⟨by have := HB2.out; rw [← HN.out] at this; exact this⟩
  cases b
  · go_wp2_with fail
    have hend : (w2.setCell ⟨N, 0, none⟩ (.slice none 0 0)).heap[N]? = some (.cells #[.slice none 0 0] 28 (0, 0)) := (blk_set HBK2.out 0 _).trans rfl
    refine bodyPost_ret (results_agg rfl _ _ N 28 #[.slice none 0 0] (0, 0) _ rfl hend Tryz.underlying28 rfl (by kernel_rfl)) rfl ?_
    refine ⟨.slice none 0 0, by rw [HV2.out]; rfl, ?_, bs_ HB3.out (Nat.le_of_eq HN.out)⟩
    rw [HV1.out]
    exact Kd.R_nil _ _ _ _ _
  · go_wp2_with fail
    have hend : (w2.setCell ⟨N, 0, none⟩ (.slice A (spl s).length c)).heap[N]? = some (.cells #[.slice A (spl s).length c] 28 (0, 0)) := (blk_set HBK2.out 0 _).trans rfl
    refine bodyPost_ret (results_agg rfl _ _ N 28 #[.slice A (spl s).length c] (0, 0) _ rfl hend Tryz.underlying28 rfl (by kernel_rfl)) rfl ?_
    have hg : w2.grownBy (w2.setCell ⟨N, 0, none⟩ (.slice A (spl s).length c)) (some N) := grown_set (grown_below (Below.refl _ _) N) _ _
    refine ⟨.slice A (spl s).length c, by rw [HV2.out]; rfl, ?_, bs_ HB3.out (Nat.le_of_eq HN.out)⟩
    rw [HV1.out]
    have h := Kd.R_mono (ok' := fun _ => True) (Kd.R_grown HR2.out hg (fun k hk he => by injection he with he; omega)) (fun _ _ => trivial)
    exact Kd.R_lower h (Nat.le_of_eq HN.out)
set_option maxHeartbeats 1000000 in
theorem ParseProgram_spec {s : ByteArray} {w : World} (hs : s.size ≤ 1048576) :
    Calls Tryz.prog 17 #[.string s] w fun e w' => ∃ v, e = .returned (.tuple #[.agg #[v], .int .i64 (pp2 s)]) ∧ Kd.R Kd.string 9 w' w.heap.size (fun _ => True) v (pp1 s) ∧ Below w.heap.size w w' := by
  have HS := As_.mk hs
  clear hs
  obtain ⟨b, hb⟩ : ∃ b, isP (spl s) = b := ⟨_, rfl⟩
  have HI := As_.mk hb
  have HV1 : As_ (pp1 s = if b = true then spl s else []) := ⟨by unfold pp1; rw [hb]⟩
  have HV2 : As_ (pp2 s = if b = true then 0 else 6) := ⟨by unfold pp2; rw [hb]⟩
  clear hb
  go_enter Tryz.func17, Tryz.ntmps17
  go_wp2_with fail
  refine (spec_l06Split.calls 10000000 s 32 (spl s) _ (split_f HS.out)).mono ?_
  rintro e w1 ⟨v, rfl, hR, hb⟩
  obtain ⟨A, c, rfl⟩ := Kd.R_slice hR
  have hba := (ba_ (Below.refl w.heap.size w) (.cells #[.slice none 0 0] 28)).trans (hb.mono (by simp))
  have hblk := (hb.block w.heap.size (by simp)).trans (heap_alloc_new w _)
  have HR : As_ (Kd.R Kd.string 9 w1 w.heap.size (fun k => w.heap.size + 1 ≤ k) (.slice A (spl s).length c) (spl s)) := ⟨Kd.R_lower (Kd.R_mono (Kd.R_bound hR) (fun k hk => by have := hk.2.1; simpa using this)) (by simp)⟩
  have HB := As_.mk hba
  have HBK := As_.mk hblk
  have k0 := kc_ hblk 0
  have f0 := kf_ hblk 0
  simp only [List.getElem?_toArray, List.getElem?_cons_zero, List.getElem?_cons_succ] at k0
  clear hb hba hblk hR
  obtain ⟨N, hNN⟩ : ∃ N, w.heap.size = N := ⟨_, rfl⟩
  have HN := As_.mk hNN
  rw [hNN] at HBK HR HB k0 f0 ⊢
  clear hNN
  obtain ⟨_, hl1, hC1⟩ := Kd.R_reads' HR.out
  have HX : As_ (Wdx w1 A c (spl s)) := ⟨⟨hC1, hl1, fun i hi => Nat.le_trans (spl_size HS.out i hi) (by decide)⟩⟩
  clear hl1 hC1 k0 f0
  go_wp2_with fail
  refine (l08Is_x (HX.out.below (ba_ (Below.refl _ _) _))).mono ?_
  rintro e w2 ⟨rfl, hb⟩
  rw [HI.out]
  have hbA := (ba_ (Below.refl w1.heap.size w1) (.cells #[.slice A (spl s).length c] 28)).trans (hb.mono (by simp))
  have hblk6 := (hb.block w1.heap.size (by simp)).trans (heap_alloc_new w1 _)
  have HBK2 := As_.mk ((hbA.block N (heap_lt HBK.out)).trans HBK.out)
  have j0 := kc_ hblk6 0
  simp only [List.getElem?_toArray, List.getElem?_cons_zero, List.getElem?_cons_succ] at j0
  have HB2 := As_.mk (HB.out.trans (hbA.mono (by have := HB.out.size; rw [HN.out] at this; exact this)))
  have HR2 := As_.mk (Kd.R_below HR.out hbA)
  have k0 := kc_ HBK2.out 0
  have f0 := kf_ HBK2.out 0
  simp only [List.getElem?_toArray, List.getElem?_cons_zero, List.getElem?_cons_succ] at k0
  clear hb hbA hblk6
  generalize w1.heap.size = N1 at j0 ⊢
  have HB3 : As_ (Below w.heap.size w w2) := ⟨by have := HB2.out; rw [← HN.out] at this; exact this⟩
  cases b
  · go_wp2_with fail
    have hend : (w2.setCell ⟨N, 0, none⟩ (.slice none 0 0)).heap[N]? = some (.cells #[.slice none 0 0] 28 (0, 0)) := (blk_set HBK2.out 0 _).trans rfl
    refine bodyPost_ret (results_agg rfl _ _ N 28 #[.slice none 0 0] (0, 0) _ rfl hend Tryz.underlying28 rfl (by kernel_rfl)) rfl ?_
    refine ⟨.slice none 0 0, by rw [HV2.out]; rfl, ?_, bs_ HB3.out (Nat.le_of_eq HN.out)⟩
    rw [HV1.out]
    exact Kd.R_nil _ _ _ _ _
  · go_wp2_with fail
    have hend : (w2.setCell ⟨N, 0, none⟩ (.slice A (spl s).length c)).heap[N]? = some (.cells #[.slice A (spl s).length c] 28 (0, 0)) := (blk_set HBK2.out 0 _).trans rfl
    refine bodyPost_ret (results_agg rfl _ _ N 28 #[.slice A (spl s).length c] (0, 0) _ rfl hend Tryz.underlying28 rfl (by kernel_rfl)) rfl ?_
    have hg : w2.grownBy (w2.setCell ⟨N, 0, none⟩ (.slice A (spl s).length c)) (some N) := grown_set (grown_below (Below.refl _ _) N) _ _
    refine ⟨.slice A (spl s).length c, by rw [HV2.out]; rfl, ?_, bs_ HB3.out (Nat.le_of_eq HN.out)⟩
    rw [HV1.out]
    have h := Kd.R_mono (ok' := fun _ => True) (Kd.R_grown HR2.out hg (fun k hk he => by injection he with he; omega)) (fun _ _ => trivial)
    exact Kd.R_lower h (Nat.le_of_eq HN.out)
theorem drawn_below {w w' : World} {B : Nat} (h : Drawn0 w w') : Below B w w' := by
  obtain ⟨n, rfl⟩ := h
  exact pN_ (Below.refl _ _) n
set_option maxHeartbeats 1000000 in
theorem eqP_calls (k : Nat) (A : Option Addr) (c : Nat) (l : List ByteArray) (A1 : Option Addr) (c1 : Nat) (l1 : List ByteArray) (r : Bool) (w : World) (hr : Kd.C Kd.string w A l.length l) (hc : l.length ≤ c) (hr1 : Kd.C Kd.string w A1 l1.length l1) (hc1 : l1.length ≤ c1) (h : laws_eqProgram.f k l l1 = some r) :
    Calls Tryz.prog 14 #[.agg #[.slice A l.length c], .agg #[.slice A1 l1.length c1]] w fun e w' => e = .returned (.bool r) ∧ Below w.heap.size w w' := by
  obtain ⟨x, hx, hr2⟩ := Option.bind_eq_some_iff.mp h
  have hrx : x = r := by cases x <;> simpa using hr2
  subst hrx
  have HR := As_.mk hr
  have HC := As_.mk hc
  have HR1 := As_.mk hr1
  have HC1 := As_.mk hc1
  have HX := As_.mk hx
  clear hr hc hx h hr2 hr1 hc1
  go_enter Tryz.func14, Tryz.ntmps14
  go_wp2_with fail
  refine (laws_eqStringS.calls k A c l A1 c1 l1 x _ (Kd.C_alloc (Kd.C_alloc HR.out _) _) HC.out (Kd.C_alloc (Kd.C_alloc HR1.out _) _) HC1.out HX.out).mono ?_
  rintro e w1 ⟨rfl, hb⟩
  have HB := As_.mk ((ba_ (ba_ (Below.refl w.heap.size w) (.cells #[.slice A l.length c] 28)) (.cells #[.slice A1 l1.length c1] 28)).trans (drawn_below hb))
  clear hb
  cases x
  · go_wp2_with fail
    go_ret
    exact ⟨rfl, HB.out⟩
  · go_wp2_with fail
    go_ret
    exact ⟨rfl, HB.out⟩
set_option maxHeartbeats 1000000 in
theorem heldS_calls {w : World} {A : Option Addr} {c L : Nat} (hr : Kd.C Kd.string w A L (mks L)) (hL : L ≤ 1048577) :
    Calls Tryz.prog 60 #[.slice A L c, .int .i64 1] w fun e w' => e = .returned (.int .i64 ((L : Int) + 1)) ∧ Below w.heap.size w w' := by
  have HC := As_.mk hr
  have HL := As_.mk hL
  clear hr hL
  go_enter Tryz.func60, Tryz.ntmps60
  go_wp2
  go_loopg [1, 5] (L + 1) (fun kq s1 s5 w' => ∃ i : Nat, s1 = .int .i64 ((i : Int) + 1) ∧ s5 = .int .i64 (i : Int) ∧ As_ (i ≤ L ∧ L < kq + i) ∧ As_ (Below w.heap.size w w'))
  case atStart => exact ⟨0, rfl, rfl, ⟨by omega⟩, ⟨Below.refl _ _⟩⟩
  case round =>
    obtain ⟨i, rfl, rfl, HI, HB⟩ := hrel
    by_cases hi : i < L
    · have hi2 : (i : Int) < (L : Int) := by omega
      have hi3 : (0 : Int) ≤ (i : Int) := by omega
      obtain ⟨ad, rfl, hx⟩ := Kd.at_string (Kd.C_below HC.out HB.out) (i : Int) hi3 hi2
      rw [Int.toNat_natCast, mks_at hi] at hx
      have HM := As_.mk (mt_f (x := i) (by have := HL.out; omega) (k := 100) (by omega))
      have HX := As_.mk hx
      have HIL := As_.mk hi
      clear hi
      generalize mt i = x at hx HM HX
      go_wp2_with fail
      go_region_with (go_at_call 105; refine (laws_markText.calls 100 ((i : Int) + 1) x _ HM.out).mono ?_; rintro e w1 ⟨rfl, hb⟩; have hb' : Below _ _ w1 := (by first | exact below_undrew hb | exact hb); have HB1 := As_.mk (HB.out.trans (hb'.mono HB.out.size)); have hx1 := (hb'.cell (cell_lt HX.out)).trans HX.out; clear hb hb')
      all_goals
        go_wp2_with fail
        have hl := HL.out
        have hl2 := HIL.out
        have e1 : wrap64 ((i : Int) + 1 + 1) = ((i + 1 : Nat) : Int) + 1 := by rw [w64 (by omega) (by omega)]; omega
        have e2 : wrap64 ((i : Int) + 1) = ((i + 1 : Nat) : Int) := w64s i (by omega)
        rw [e1, e2]
        go_roundg (L - i)
        case measure => have := HI.out; have := HIL.out; omega
        case rel => exact ⟨i + 1, rfl, rfl, ⟨by have := HIL.out; omega⟩, HB1⟩
    · have hie : i = L := by have := HI.out; omega
      subst hie
      have hi2 : ¬ (i : Int) < (i : Int) := by omega
      clear hi
      go_wp2_with fail
      go_ret
      exact ⟨rfl, HB.out⟩
set_option maxHeartbeats 1000000 in
theorem markP_calls (k : Nat) (P0 : Nat → Prop) (A : Option Addr) (n c : Nat) (l : List ByteArray) (a1 r1 : Int) (r2 : List ByteArray) (w0 w : World) (hB : Below w0.heap.size w0 w) (ho : Kd.R Kd.string 9 w w0.heap.size P0 (.slice A n c) l) (h : laws_markProgram.f k l a1 = some (r1, r2)) :
    Calls Tryz.prog 19 #[.agg #[.slice A n c], .int .i64 a1] w fun e w' => e = .returned (.int .i64 r1) ∧ Kd.R Kd.string 9 w' w0.heap.size (fun k_ => (P0 k_ ∨ w.heap.size ≤ k_)) (.slice A n c) r2 ∧ Below w0.heap.size w0 w' ∧ Kept w w' (fun k_ => P0 k_) := by
  obtain ⟨⟨x, y⟩, hx, hr2⟩ := Option.bind_eq_some_iff.mp h
  have hr := Option.some.inj hr2
  simp only [Prod.mk.injEq] at hr
  obtain ⟨rfl, rfl⟩ := hr
  have HO := As_.mk ho
  have HB := As_.mk hB
  have HX := As_.mk hx
  clear ho hB hx h hr2
  go_enter Tryz.func19, Tryz.ntmps19
  go_wp2_with fail
  refine (laws_markStringS.calls k P0 (.slice A n c) l a1 x y w0 _ (ba_ HB.out _) (Kd.R_alloc HO.out _) HX.out).mono ?_
  rintro e w1 ⟨rfl, hR, hb, hK⟩
  have HR : As_ (Kd.R Kd.string 9 w1 w0.heap.size (fun k_ => (P0 k_ ∨ w.heap.size ≤ k_)) (.slice A n c) y) := ⟨Kd.R_mono hR (fun k hk => hk.imp id (fun h => by simp at h; omega))⟩
  have HB1 := As_.mk hb
  have HK : As_ (Kept w w1 (fun k_ => P0 k_)) := ⟨⟨by have := hK.1; simp at this; omega, fun i hi hn => (hK.2 i (by simp; omega) hn).trans ((ba_ (Below.refl w.heap.size w) _).block i hi)⟩⟩
  clear hR hb hK
  go_wp2_with fail
  go_ret
  exact ⟨rfl, HR.out, HB1.out, HK.out⟩
set_option maxHeartbeats 1000000 in
theorem heldP_calls {w : World} {A : Option Addr} {c L : Nat} (hr : Kd.C Kd.string w A L (mks L)) (hL : L ≤ 1048577) :
    Calls Tryz.prog 20 #[.agg #[.slice A L c], .int .i64 1] w fun e w' => e = .returned (.int .i64 ((L : Int) + 1)) ∧ Below w.heap.size w w' := by
  have HR := As_.mk hr
  have HL := As_.mk hL
  obtain ⟨q, hq⟩ : ∃ q : Int, (L : Int) + 1 = q := ⟨_, rfl⟩
  have HQ := As_.mk hq
  have HD : As_ (decide (q < 0) = false) := ⟨decide_eq_false (by omega)⟩
  rw [hq]
  clear hr hL hq
  go_enter Tryz.func20, Tryz.ntmps20
  go_wp2_with fail
  refine (heldS_calls (Kd.C_alloc HR.out _) HL.out).mono ?_
  rintro e w1 ⟨rfl, hb⟩
  rw [HQ.out]
  have HB := As_.mk ((ba_ (Below.refl w.heap.size w) (.cells #[.slice A L c] 28)).trans (hb.mono (by simp)))
  clear hb
  have hd := HD.out
  go_wp2_with fail
  go_ret
  exact ⟨rfl, HB.out⟩
theorem pp1_len {s : ByteArray} (hs : s.size ≤ 1048576) : (pp1 s).length ≤ 1048577 := by
  unfold pp1
  split
  · exact spl_len_le hs
  · simp
set_option maxHeartbeats 2000000 in
theorem law_ParseProgram {s : ByteArray} {m : Int} {w : World} (hz : s.size ≤ 9223372036854775807) (hm : w.cell? ⟨1, 0, none⟩ = some (.int .i64 m)) :
    Calls Tryz.prog 5 #[.string s] w fun e w' => e = .returned (.bool true) ∧ Below w.heap.size w w' := by
  have HM := As_.mk hm
  clear hm
  obtain ⟨ws, hws⟩ : ∃ ws, pp1 s = ws := ⟨_, rfl⟩
  have HP := As_.mk hws
  obtain ⟨er, her⟩ : ∃ er, pp2 s = er := ⟨_, rfl⟩
  have HE := As_.mk her
  obtain ⟨q, hq⟩ : ∃ q : Int, (ws.length : Int) + 1 = q := ⟨_, rfl⟩
  have HQ := As_.mk hq
  have HQ0 : As_ (0 ≤ q) := ⟨by omega⟩
  clear hws her hq
  by_cases hb : (1048576 : Int) < (s.size : Int)
  · have hb2 : decide ((1048576 : Int) < (s.size : Int)) = true := decide_eq_true hb
    go_enter Tryz.func5, Tryz.ntmps5
    go_wp2_with fail
    go_ret
    exact ⟨rfl, Below.refl _ _⟩
  · have HS : As_ (s.size ≤ 1048576) := ⟨by omega⟩
    have HL : As_ (ws.length ≤ 1048577) := ⟨by have := pp1_len HS.out; rw [HP.out] at this; exact this⟩
    have hb2 : decide ((1048576 : Int) < (s.size : Int)) = false := decide_eq_false hb
    go_enter Tryz.func5, Tryz.ntmps5
    go_wp2_with fail
    refine (ParseProgram_spec HS.out).mono ?_
    rintro e w1 ⟨v, rfl, hR, hb⟩
    rw [HP.out] at hR
    rw [HE.out]
    obtain ⟨A1, c1, rfl⟩ := Kd.R_slice hR
    obtain ⟨N1, hN1⟩ : ∃ x, w1.heap.size = x := ⟨_, rfl⟩
    obtain ⟨wA, hwA⟩ : ∃ x, w1.alloc (.cells #[.slice A1 ws.length c1] 28) = x := ⟨_, rfl⟩
    have HWA := As_.mk hwA
    have HN1 := As_.mk hN1
    have HBW : As_ (Below w.heap.size w wA) := ⟨hwA ▸ ba_ hb _⟩
    have HR1 : As_ (Kd.R Kd.string 9 wA w.heap.size (fun _ => True) (.slice A1 ws.length c1) ws) := ⟨hwA ▸ Kd.R_alloc hR _⟩
    have HBK1 : As_ (wA.heap[N1]? = some (.cells #[.slice A1 ws.length c1] 28 (0, 0))) := ⟨by rw [← hwA, ← hN1]; exact heap_alloc_new w1 _⟩
    clear hR hb hN1 hwA
    go_wp2_with fail
    rw [HWA.out, HN1.out]
    clear HWA HN1
    refine (ParseProgram_impl HS.out (hm_below HM.out HBW.out)).mono ?_
    rintro e w2 ⟨v, rfl, hR, hb⟩
    rw [HP.out] at hR
    rw [HE.out]
    obtain ⟨A2, c2, rfl⟩ := Kd.R_slice hR
    obtain ⟨N2, hN2⟩ : ∃ x, w2.heap.size = x := ⟨_, rfl⟩
    obtain ⟨wB, hwB⟩ : ∃ x, w2.alloc (.cells #[.slice A2 ws.length c2] 28) = x := ⟨_, rfl⟩
    have HWB := As_.mk hwB
    have HN2 := As_.mk hN2
    have HBB : As_ (Below wA.heap.size wA wB) := ⟨hwB ▸ ba_ hb _⟩
    have HR2 : As_ (Kd.R Kd.string 9 wB wA.heap.size (fun k => wA.heap.size ≤ k ∧ k < N2) (.slice A2 ws.length c2) ws) := ⟨hwB ▸ Kd.R_alloc (Kd.R_mono (Kd.R_bound hR) (fun k hk => ⟨hk.2.1, hN2 ▸ hk.2.2.1⟩)) _⟩
    have HBK2 : As_ (wB.heap[N2]? = some (.cells #[.slice A2 ws.length c2] 28 (0, 0))) := ⟨by rw [← hwB, ← hN2]; exact heap_alloc_new w2 _⟩
    have HAN : As_ (wA.heap.size ≤ N2) := ⟨hN2 ▸ hb.size⟩
    clear hR hb hN2 hwB
    have HBK1B := As_.mk ((HBB.out.block N1 (heap_lt HBK1.out)).trans HBK1.out)
    have k1 := kc_ HBK1B.out 0
    simp only [List.getElem?_toArray, List.getElem?_cons_zero, List.getElem?_cons_succ] at k1
    rw [← HWB.out] at k1
    go_wp2_with fail
    rw [HWB.out] at k1 ⊢
    rw [HN2.out]
    clear HWB HN2
    clear k1
    have HE2 := As_.mk (Kd.R_reads' HR2.out).2
    have HE1 := As_.mk (Kd.R_reads' (Kd.R_below HR1.out HBB.out)).2
    refine (eqP_calls 10000000 A2 c2 ws A1 c1 ws true _ HE2.out.2 HE2.out.1 HE1.out.2 HE1.out.1 (eq_f' HL.out)).mono ?_
    rintro e wC ⟨rfl, hb⟩
    have HBC := As_.mk (HBB.out.trans (hb.mono HBB.out.size))
    have HRC := As_.mk (Kd.R_below HR2.out hb)
    have HBKC := As_.mk ((hb.block N2 (heap_lt HBK2.out)).trans HBK2.out)
    have k2 := kc_ HBKC.out 0
    simp only [List.getElem?_toArray, List.getElem?_cons_zero, List.getElem?_cons_succ] at k2
    clear hb HE1 HE2
    go_wp2_with fail
    refine (markP_calls 10000000 (fun k => wA.heap.size ≤ k ∧ k < N2) A2 ws.length c2 ws 1 ((ws.length : Int) + 1) (mks ws.length) wA wC HBC.out HRC.out (mark_f HL.out)).mono ?_
    rintro e wD ⟨rfl, hR, hbA, hK⟩
    rw [HQ.out]
    have HBKD := As_.mk ((hK.2 N2 (heap_lt HBKC.out) (fun h => Nat.lt_irrefl _ h.2)).trans HBKC.out)
    have HRD := As_.mk hR
    have HBD := As_.mk hbA
    have k2 := kc_ HBKD.out 0
    simp only [List.getElem?_toArray, List.getElem?_cons_zero, List.getElem?_cons_succ] at k2
    clear hR hbA hK
    go_wp2_with fail
    have HH := As_.mk (Kd.R_reads' HRD.out)
    have hcall := heldP_calls (c := c2) (by have h := HH.out.2.2; rw [mks_len] at h; exact h) HL.out
    rw [HQ.out] at hcall
    refine hcall.mono ?_
    clear hcall HH
    rintro e wE ⟨rfl, hb⟩
    have HBE := As_.mk (HBD.out.trans (hb.mono HBD.out.size))
    have HRE := As_.mk (Kd.R_below HRD.out hb)
    have HBKE := As_.mk ((hb.block N2 (heap_lt HBKD.out)).trans HBKD.out)
    have hq0 : decide (q < 0) = false := decide_eq_false (by have := HQ0.out; omega)
    clear hb k2
    go_wp2_with fail
    clear hq0
    refine (ParseProgram_impl HS.out (hm_below HM.out (HBW.out.trans (HBE.out.mono HBW.out.size)))).mono ?_
    rintro e wF ⟨v, rfl, hR, hb⟩
    rw [HP.out] at hR
    rw [HE.out]
    obtain ⟨A3, c3, rfl⟩ := Kd.R_slice hR
    obtain ⟨N3, hN3⟩ : ∃ x, wF.heap.size = x := ⟨_, rfl⟩
    obtain ⟨wG, hwG⟩ : ∃ x, wF.alloc (.cells #[.slice A3 ws.length c3] 28) = x := ⟨_, rfl⟩
    have HWG := As_.mk hwG
    have HN3 := As_.mk hN3
    have HEG : As_ (Below wE.heap.size wE wG) := ⟨hwG ▸ ba_ hb _⟩
    have HR3 : As_ (Kd.R Kd.string 9 wG wE.heap.size (fun _ => True) (.slice A3 ws.length c3) ws) := ⟨hwG ▸ Kd.R_alloc hR _⟩
    clear hR hb hN3 hwG
    have HBG := As_.mk (HBE.out.trans (HEG.out.mono HBE.out.size))
    have HRG := As_.mk (Kd.R_below HRE.out HEG.out)
    have HBKG := As_.mk ((HEG.out.block N2 (heap_lt HBKE.out)).trans HBKE.out)
    have HBK1G := As_.mk ((HBG.out.block N1 (heap_lt HBK1.out)).trans HBK1.out)
    have k1 := kc_ HBK1G.out 0
    have k2 := kc_ HBKG.out 0
    simp only [List.getElem?_toArray, List.getElem?_cons_zero, List.getElem?_cons_succ] at k1 k2
    rw [← HWG.out] at k1 k2
    go_wp2_with fail
    rw [HWG.out] at k1 k2 ⊢
    rw [HN3.out]
    clear HWG HN3 k1 k2
    have HE3 := As_.mk (Kd.R_reads' HR3.out).2
    have HE1 := As_.mk (Kd.R_reads' (Kd.R_below HR1.out HBG.out)).2
    refine (eqP_calls 10000000 A3 c3 ws A1 c1 ws true _ HE3.out.2 HE3.out.1 HE1.out.2 HE1.out.1 (eq_f' HL.out)).mono ?_
    rintro e wH ⟨rfl, hb⟩
    have HBH := As_.mk (HBG.out.trans (hb.mono HBG.out.size))
    have HRH := As_.mk (Kd.R_below HRG.out hb)
    have HBKH := As_.mk ((hb.block N2 (heap_lt HBKG.out)).trans HBKG.out)
    have k2 := kc_ HBKH.out 0
    simp only [List.getElem?_toArray, List.getElem?_cons_zero, List.getElem?_cons_succ] at k2
    clear hb HE1 HE3
    go_wp2_with fail
    have HH := As_.mk (Kd.R_reads' HRH.out)
    have hcall := heldP_calls (c := c2) (by have h := HH.out.2.2; rw [mks_len] at h; exact h) HL.out
    rw [HQ.out] at hcall
    refine hcall.mono ?_
    clear hcall HH
    rintro e wI ⟨rfl, hb⟩
    have HBI := As_.mk (HBH.out.trans (hb.mono HBH.out.size))
    have hq0 : decide (q < 0) = false := decide_eq_false (by have := HQ0.out; omega)
    clear hb k2
    go_wp2_with fail
    go_ret
    exact ⟨rfl, HBW.out.trans (HBI.out.mono HBW.out.size)⟩
end Go.Proofs.YtlogcnglmdpejaaGreatDoor.Hd
end
