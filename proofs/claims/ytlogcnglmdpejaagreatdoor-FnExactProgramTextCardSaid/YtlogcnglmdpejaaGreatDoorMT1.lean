/- The card of the law: for every input the law returns true and the argument reads as before. Conditions: the row's own (the listed tables lie as the program's text lays them). -/
import Derived.Lib.Join
import Derived.Shelf.Strings.OnBuilder
import Derived.Test.YtlogcnglmdpejaaGreatDoorProg
import Derived.Test.YtlogcnglmdpejaaGreatDoorCards
import Derived.Test.YtlogcnglmdpejaaGreatDoorTie
import Derived.WalkKit
import Derived.ProofKit
import Derived.OpenShut
import Derived.SliceStrings
import Derived.Lib.SmallJoins
import Derived.Lay
import Derived.Deep.DeepHandedRow
import Derived.Test.YtlogcnglmdpejaaGreatDoorMV0
import Derived.Test.YtlogcnglmdpejaaGreatDoorMV1
import Derived.Test.YtlogcnglmdpejaaGreatDoorMV2
import Derived.Test.YtlogcnglmdpejaaGreatDoorMV3
import Derived.Test.YtlogcnglmdpejaaGreatDoorMV4
import Derived.Test.YtlogcnglmdpejaaGreatDoorMV5
import Derived.Test.YtlogcnglmdpejaaGreatDoorMV6
import Derived.Test.YtlogcnglmdpejaaGreatDoorMV7
import Derived.Test.YtlogcnglmdpejaaGreatDoorMV8
import Derived.Test.YtlogcnglmdpejaaGreatDoorMV9
import Derived.Test.YtlogcnglmdpejaaGreatDoorMV10
import Derived.Test.YtlogcnglmdpejaaGreatDoorMV11
import Derived.Test.YtlogcnglmdpejaaGreatDoorMV12
import Derived.Test.YtlogcnglmdpejaaGreatDoorMV13
import Derived.Test.YtlogcnglmdpejaaGreatDoorMV14
import Derived.Test.YtlogcnglmdpejaaGreatDoorMV15
import Derived.Test.YtlogcnglmdpejaaGreatDoorMV16
import Derived.Test.YtlogcnglmdpejaaGreatDoorMV17
import Derived.Test.YtlogcnglmdpejaaGreatDoorMV18
import Derived.Test.YtlogcnglmdpejaaGreatDoorMV19
import Derived.Test.YtlogcnglmdpejaaGreatDoorMV20
import Derived.Test.YtlogcnglmdpejaaGreatDoorMV21
import Derived.Test.YtlogcnglmdpejaaGreatDoorMV22
import Derived.Test.YtlogcnglmdpejaaGreatDoorMV23
import Derived.Test.YtlogcnglmdpejaaGreatDoorMV24
import Derived.Test.YtlogcnglmdpejaaGreatDoorMT0
section
namespace Go.Proofs.YtlogcnglmdpejaaGreatDoor.Hd
open Go.RowKit Go.Proofs.YtlogcnglmdpejaaGreatDoorW.PrintWords Go.Proofs.YtlogcnglmdpejaaGreatDoorW.PrintLast Go.Proofs.YtlogcnglmdpejaaGreatDoorW.PrintMore Go.Proofs.YtlogcnglmdpejaaGreatDoor.Pq
set_option linter.unusedVariables false
set_option linter.unusedSimpArgs false
def jn (ws : List ByteArray) : ByteArray := ⟨(Lib.join (ws.map (·.data.toList)) [32]).toArray⟩
theorem join_snoc (xs : List (List UInt8)) (y sep : List UInt8) (h : xs ≠ []) : Lib.join (xs ++ [y]) sep = Lib.join xs sep ++ sep ++ y := by
  cases xs with
  | nil => exact absurd rfl h
  | cons x r =>
    rw [List.cons_append, Lib.join_cons, Lib.join_cons]
    simp [Lib.joinTail, List.append_assoc]
theorem dl_append (a b : ByteArray) : (a ++ b).data.toList = a.data.toList ++ b.data.toList := by
  obtain ⟨a⟩ := a
  obtain ⟨b⟩ := b
  simp
theorem size_dl (a : ByteArray) : a.size = a.data.toList.length := by
  obtain ⟨a⟩ := a
  rfl
theorem ba_of_dl {a : ByteArray} {l : List UInt8} (h : a.data.toList = l) : a = ⟨l.toArray⟩ := by
  obtain ⟨a⟩ := a
  subst h
  rfl
theorem join_take {ws : List ByteArray} (hs : ∀ j : Nat, j < ws.length → (rdOf ByteArray.empty ws (j : Int)).size ≤ 1048576) : ∀ i : Nat, i ≤ ws.length → (Lib.join ((ws.take i).map (·.data.toList)) [32]).length ≤ i * 1048577
  | 0, _ => by simp [Lib.join_nil]
  | i + 1, h => by
    have hi : i < ws.length := by omega
    have ih := join_take hs i (by omega)
    have h1 := hs i hi
    rw [rdOf_get hi, size_dl] at h1
    rw [List.take_succ_eq_append_getElem hi, List.map_append, List.map_cons, List.map_nil]
    cases i with
    | zero => simp only [List.take_zero, List.map_nil, List.nil_append, Lib.join_one]; omega
    | succ i =>
      rw [join_snoc _ _ _ (by
        intro h0
        have := congrArg List.length h0
        rw [List.length_map, List.length_take] at this
        simp only [List.length_nil] at this
        omega)]
      simp only [List.length_append, List.length_cons, List.length_nil]
      omega
theorem text_l0 (n : Nat) : ∀ (k i : Nat) (ws : List ByteArray) (x : ByteArray), ws.length - i = n → i ≤ ws.length → ws.length ≤ 1048576 → n < k → (∀ j : Nat, j < ws.length → (rdOf ByteArray.empty ws (j : Int)).size ≤ 1048576) →
    x.data.toList = Lib.join ((ws.take i).map (·.data.toList)) [32] → spec_l08Text.l0 k x (i : Int) ws = some (jn ws) := by
  induction n with
  | zero =>
    intro k i ws x h1 h2 h3 h4 h5 h6
    obtain ⟨k, rfl⟩ : ∃ m, k = m + 1 := ⟨k - 1, by omega⟩
    rw [spec_l08Text.l0, if_neg (by omega)]
    rw [List.take_of_length_le (by omega)] at h6
    rw [ba_of_dl h6]
    rfl
  | succ n ih =>
    intro k i ws x h1 h2 h3 h4 h5 h6
    obtain ⟨k, rfl⟩ : ∃ m, k = m + 1 := ⟨k - 1, by omega⟩
    have hi : i < ws.length := by omega
    have hb := join_take h5 i (by omega)
    have h9 := h5 i hi
    have hx : x.size ≤ i * 1048577 := by rw [size_dl, h6]; exact hb
    have ha := rdOf_get hi
    rw [spec_l08Text.l0, if_pos (by omega)]
    by_cases h0 : i = 0
    · subst h0
      rw [if_neg (by omega), if_pos (by omega), if_pos (by omega), w64s 0 (by omega)]
      refine ih k 1 ws _ (by omega) (by omega) h3 (by omega) h5 ?_
      rw [List.take_succ_eq_append_getElem hi, dl_append, h6, ha]
      simp [Lib.join_one, Lib.join_nil]
    · have hsz : (x ++ (⟨#[32]⟩ : ByteArray)).size = x.size + 1 := by rw [size_dl, dl_append, List.length_append, ← size_dl]; rfl
      rw [if_pos (by omega), if_pos (by omega), if_pos (by omega), hsz, if_pos (by omega), w64s i (by omega)]
      refine ih k (i + 1) ws _ (by omega) (by omega) h3 (by omega) h5 ?_
      rw [List.take_succ_eq_append_getElem hi, List.map_append, List.map_cons, List.map_nil, join_snoc _ _ _ (by
        intro h0
        have := congrArg List.length h0
        rw [List.length_map, List.length_take] at this
        simp only [List.length_nil] at this
        omega), dl_append, dl_append, h6, ha]
theorem text_f {ws : List ByteArray} (hl : ws.length ≤ 1048576) (hs : ∀ j : Nat, j < ws.length → (rdOf ByteArray.empty ws (j : Int)).size ≤ 1048576) : spec_l08Text.f 10000000 ws = some (jn ws) := by
  unfold spec_l08Text.f
  have := text_l0 ws.length 10000000 0 ws ⟨#[]⟩ (by omega) (by omega) hl (by omega) hs rfl
  rw [show ((0 : Nat) : Int) = 0 from rfl] at this
  exact this
theorem jn_size {ws : List ByteArray} (hl : ws.length ≤ 1048576) (hs : ∀ j : Nat, j < ws.length → (rdOf ByteArray.empty ws (j : Int)).size ≤ 1048576) : (Lib.join (ws.map (·.data.toList)) [32]).length ≤ 140737488355328 := by
  have := join_take hs ws.length (Nat.le_refl _)
  rw [List.take_length] at this
  omega
end Go.Proofs.YtlogcnglmdpejaaGreatDoor.Hd
end
section
namespace Go.Proofs
open Go.Shelf
def Tryz.lays156_ren : Go.Shelf.Ren := ⟨fun | 156 => 103 | 165 => 155 | 166 => 156 | 169 => 157 | 240 => 204 | 241 => 205 | 276 => 242 | 277 => 243 | n => n, fun | 31 => 22 | 9 => 9 | 3 => 3 | 4 => 4 | 0 => 0 | 20 => 20 | 72 => 186 | 76 => 190 | 70 => 184 | 37 => 71 | 75 => 189 | 127 => 226 | 164 => 255 | 5 => 5 | 80 => 192 | n => n, fun | n => n⟩
theorem Tryz.lays156 : Go.Proofs.Lays.n156 Tryz.prog Tryz.lays156_ren := {
  mixed := by kernel_rfl
  f156 := Tryz.func103.trans (congrArg some (by kernel_rfl))
  f165 := Tryz.func155.trans (congrArg some (by kernel_rfl))
  f166 := Tryz.func156.trans (congrArg some (by kernel_rfl))
  f169 := Tryz.func157.trans (congrArg some (by kernel_rfl))
  f240 := Tryz.func204.trans (congrArg some (by kernel_rfl))
  f241 := Tryz.func205.trans (congrArg some (by kernel_rfl))
  f276 := Tryz.func242.trans (congrArg some (by kernel_rfl))
  f277 := Tryz.func243.trans (congrArg some (by kernel_rfl))
  t0 := Tryz.underlying0
  a0 := Tryz.isAgg0
  z0 := Tryz.sizeOf0
  v0 := Tryz.zeroValue0
  t3 := Tryz.underlying3
  a3 := Tryz.isAgg3
  z3 := Tryz.sizeOf3
  v3 := Tryz.zeroValue3
  t4 := Tryz.underlying4
  a4 := Tryz.isAgg4
  z4 := Tryz.sizeOf4
  v4 := Tryz.zeroValue4
  t9 := Tryz.underlying9
  a9 := Tryz.isAgg9
  z9 := Tryz.sizeOf9
  v9 := Tryz.zeroValue9
  t20 := Tryz.underlying20
  a20 := Tryz.isAgg20
  z20 := Tryz.sizeOf20
  v20 := Tryz.zeroValue20
  t31 := Tryz.underlying22
  a31 := Tryz.isAgg22
  z31 := Tryz.sizeOf22
  v31 := Tryz.zeroValue22
  t37 := Tryz.underlying71
  a37 := Tryz.isAgg71
  z37 := Tryz.sizeOf71
  v37 := Tryz.zeroValue71
  t70 := Tryz.underlying184
  a70 := Tryz.isAgg184
  z70 := Tryz.sizeOf184
  v70 := Tryz.zeroValue184
  t72 := Tryz.underlying186
  a72 := Tryz.isAgg186
  z72 := Tryz.sizeOf186
  v72 := Tryz.zeroValue186
  t75 := Tryz.underlying189
  a75 := Tryz.isAgg189
  z75 := Tryz.sizeOf189
  v75 := Tryz.zeroValue189
  t76 := Tryz.underlying190
  a76 := Tryz.isAgg190
  z76 := Tryz.sizeOf190
  v76 := Tryz.zeroValue190
  t127 := Tryz.underlying226
  a127 := Tryz.isAgg226
  z127 := Tryz.sizeOf226
  v127 := Tryz.zeroValue226
  t164 := Tryz.underlying255
  a164 := Tryz.isAgg255
  z164 := Tryz.sizeOf255
  v164 := Tryz.zeroValue255 }
theorem Tryz.Builder_Extra_156 : Builder.Extra Tryz.prog Tryz.lays156_ren := {
  sizeBuilder := by kernel_rfl
  liesBuilder := by kernel_rfl
  t5 := Tryz.underlying5
  a5 := Tryz.isAgg5
  z5 := Tryz.sizeOf5
  v5 := Tryz.zeroValue5
  infoByte := by kernel_rfl
  cellsByte := by kernel_rfl
  sizeByte := by kernel_rfl
  neB5 := by decide }
open Go.RowKit in
theorem Tryz.strings_Join_none (a : Option Addr) (c : Nat) (sep : ByteArray) (w : World) :
    Calls Tryz.prog 103 #[.slice a 0 c, .string sep] w fun e w' => e = .returned (.string ⟨#[]⟩) ∧ w' = w := Any.strings_Join_none Tryz.lays156 Tryz.Builder_Extra_156 a c sep w
open Go.RowKit in
theorem Tryz.strings_Join (bk o c : Nat) (xs : List ByteArray) (sep : ByteArray) (w : World) (hcells : ∀ (j : Nat) x, xs[j]? = some x → w.cell? ⟨bk, o + j, none⟩ = some (.string x)) (hbk : bk < w.heap.size) (hN : xs.length ≤ 140737488355328) (hcap : xs.length ≤ c) (hlen : (Lib.join (xs.map (·.data.toList)) sep.data.toList).length ≤ 140737488355328) :
    Calls Tryz.prog 103 #[.slice (some ⟨bk, o, none⟩) xs.length c, .string sep] w fun e w' => e = .returned (.string ⟨(Lib.join (xs.map (·.data.toList)) sep.data.toList).toArray⟩) ∧ Below w.heap.size w w' := Any.strings_Join Tryz.lays156 Tryz.Builder_Extra_156 bk o c xs sep w hcells hbk hN hcap hlen
end Go.Proofs
end
section
namespace Go.Proofs.YtlogcnglmdpejaaGreatDoor.Hd
open Go.RowKit Go.Proofs.YtlogcnglmdpejaaGreatDoorW.PrintWords Go.Proofs.YtlogcnglmdpejaaGreatDoorW.PrintLast Go.Proofs.YtlogcnglmdpejaaGreatDoorW.PrintMore Go.Proofs.YtlogcnglmdpejaaGreatDoor.Pq
attribute [local go_sem] max2_int min2_int max_two min_two max_three min_three max_four min_four
set_option linter.unusedVariables false
set_option linter.unusedSimpArgs false
theorem Join_calls {w : World} {A : Option Addr} {c : Nat} {ws : List ByteArray} (h : Wds w A c ws) :
    Calls Tryz.prog 103 #[.slice A ws.length c, .string (⟨#[32]⟩ : ByteArray)] w fun e w' => e = .returned (.string (jn ws)) ∧ Below w.heap.size w w' := by
  cases ws with
  | nil =>
    refine (Tryz.strings_Join_none A c _ w).mono ?_
    rintro e w' ⟨rfl, rfl⟩
    exact ⟨rfl, Below.refl _ _⟩
  | cons x r =>
    obtain ⟨_, _, hr⟩ := Kd.reads_of_C (d := ByteArray.empty) h.row
    obtain ⟨ad, rfl, hc⟩ := hr (by simp)
    have h0 := hc 0 (by simp)
    obtain ⟨b, o, q⟩ := ad
    have hq : q = none := by
      cases q with
      | none => rfl
      | some q =>
        simp only [Addr.add, if_true, World.cell?] at h0
        split at h0 <;> simp at h0
    subst hq
    have hadd : ∀ j, (⟨b, o, none⟩ : Addr).add j = ⟨b, o + j, none⟩ := by
      intro j
      unfold Addr.add
      split
      · next h => rw [h]; rfl
      · rfl
    have hb : b < w.heap.size := by
      rcases Nat.lt_or_ge b w.heap.size with h' | h'
      · exact h'
      · rw [hadd] at h0
        simp only [World.cell?] at h0
        rw [Array.getElem?_eq_none h'] at h0
        simp at h0
    refine (Tryz.strings_Join b o c (x :: r) ⟨#[32]⟩ w (fun j y hj => ?_) hb (Nat.le_trans h.len (by decide)) h.cap (jn_size h.len h.size)).mono ?_
    · obtain ⟨hl, he⟩ := List.getElem?_eq_some_iff.1 hj
      rw [← hadd, hc j hl, List.getD_eq_getElem?_getD, hj]
      rfl
    · rintro e w' ⟨rfl, hb⟩
      exact ⟨rfl, hb⟩
set_option maxHeartbeats 1000000 in
theorem programText_calls {w : World} {A : Option Addr} {c : Nat} {ws : List ByteArray} (h : Wds w A c ws) : Calls Tryz.prog 56 #[.agg #[.slice A ws.length c]] w fun e w' => e = .returned (.string (jn ws)) ∧ Below w.heap.size w w' := by
  have H := As_.mk h
  clear h
  go_enter Tryz.func56, Tryz.ntmps56
  go_wp2_with fail
  refine (Join_calls (H.out.below (ba_ (Below.refl _ _) _))).mono ?_
  rintro e w1 ⟨rfl, hb⟩
  have HB := As_.mk ((ba_ (Below.refl w.heap.size w) (.cells #[.slice A ws.length c] 28)).trans (hb.mono (by simp)))
  clear hb
  go_wp2_with fail
  go_ret
  exact ⟨rfl, HB.out⟩
def pt1 (ws : List ByteArray) : ByteArray := if isP ws = true then jn ws else ⟨#[]⟩
set_option maxHeartbeats 1000000 in
theorem ProgramText_impl {w : World} {A : Option Addr} {c : Nat} {ws : List ByteArray} (h : Wds w A c ws) : Calls Tryz.prog 16 #[.agg #[.slice A ws.length c]] w fun e w' => e = .returned (.tuple #[.string (pt1 ws), .int .i64 (vo2 ws)]) ∧ Below w.heap.size w w' := by
  have H := As_.mk h
  clear h
  obtain ⟨b, hb⟩ : ∃ b, isP ws = b := ⟨_, rfl⟩
  have HI := As_.mk hb
  have HV1 : As_ (pt1 ws = if b = true then jn ws else ⟨#[]⟩) := ⟨by unfold pt1; rw [hb]⟩
  have HV2 : As_ (vo2 ws = if b = true then 0 else 1) := ⟨by unfold vo2; rw [hb]⟩
  clear hb
  go_enter Tryz.func16, Tryz.ntmps16
  go_wp2_with fail
  refine (IsProgram_calls (H.out.below (ba_ (Below.refl _ _) _))).mono ?_
  rintro e w1 ⟨rfl, hb⟩
  rw [HI.out]
  have hba := (ba_ (Below.refl w.heap.size w) (.cells #[.slice A ws.length c] 28)).trans (hb.mono (by simp))
  have hblk := (hb.block w.heap.size (by simp)).trans (heap_alloc_new w _)
  have k0 := kc_ hblk 0
  simp only [List.getElem?_toArray, List.getElem?_cons_zero, List.getElem?_cons_succ] at k0
  have HB := As_.mk hba
  clear hb hba hblk
  cases b
  · go_wp2_with fail
    go_ret2
    exact ⟨by rw [HV1.out, HV2.out]; rfl, HB.out⟩
  · go_wp2_with fail
    refine (programText_calls (H.out.below HB.out)).mono ?_
    rintro e w2 ⟨rfl, hb⟩
    have HB2 := As_.mk (HB.out.trans (hb.mono HB.out.size))
    clear hb
    go_wp2_with fail
    go_ret2
    exact ⟨by rw [HV1.out, HV2.out]; rfl, HB2.out⟩
set_option maxHeartbeats 1000000 in
theorem ProgramText_spec {w : World} {A : Option Addr} {c : Nat} {ws : List ByteArray} (h : Wds w A c ws) : Calls Tryz.prog 15 #[.agg #[.slice A ws.length c]] w fun e w' => e = .returned (.tuple #[.string (pt1 ws), .int .i64 (vo2 ws)]) ∧ Below w.heap.size w w' := by
  have H := As_.mk h
  clear h
  obtain ⟨b, hb⟩ : ∃ b, isP ws = b := ⟨_, rfl⟩
  have HI := As_.mk hb
  have HV1 : As_ (pt1 ws = if b = true then jn ws else ⟨#[]⟩) := ⟨by unfold pt1; rw [hb]⟩
  have HV2 : As_ (vo2 ws = if b = true then 0 else 1) := ⟨by unfold vo2; rw [hb]⟩
  clear hb
  go_enter Tryz.func15, Tryz.ntmps15
  go_wp2_with fail
  refine (l08Is_calls (H.out.below (ba_ (Below.refl _ _) _))).mono ?_
  rintro e w1 ⟨rfl, hb⟩
  rw [HI.out]
  have hba := (ba_ (Below.refl w.heap.size w) (.cells #[.slice A ws.length c] 28)).trans (hb.mono (by simp))
  have hblk := (hb.block w.heap.size (by simp)).trans (heap_alloc_new w _)
  have k0 := kc_ hblk 0
  simp only [List.getElem?_toArray, List.getElem?_cons_zero, List.getElem?_cons_succ] at k0
  have HB := As_.mk hba
  clear hb hba hblk
  cases b
  · go_wp2_with fail
    go_ret2
    exact ⟨by rw [HV1.out, HV2.out]; rfl, HB.out⟩
  · go_wp2_with fail
    refine (spec_l08Text.calls 10000000 A c ws (jn ws) _ (H.out.below HB.out).row H.out.cap (text_f H.out.len H.out.size)).mono ?_
    rintro e w2 ⟨rfl, hb⟩
    have HB2 := As_.mk (HB.out.trans (hb.mono HB.out.size))
    clear hb
    go_wp2_with fail
    go_ret2
    exact ⟨by rw [HV1.out, HV2.out]; rfl, HB2.out⟩
theorem drawn_below {w w' : World} {B : Nat} (h : Drawn0 w w') : Below B w w' := by
  obtain ⟨n, rfl⟩ := h
  exact pN_ (Below.refl _ _) n
theorem alloc_at2 (w : World) (o1 o2 o3 : Obj) : (((w.alloc o1).alloc o2).alloc o3).heap[w.heap.size + 1 + 1]? = some o3 := by
  have h := heap_alloc_new ((w.alloc o1).alloc o2) o3
  rw [show ((w.alloc o1).alloc o2).heap.size = w.heap.size + 1 + 1 by simp] at h
  exact h
theorem alloc_at1 (w : World) (o1 o2 o3 : Obj) : (((w.alloc o1).alloc o2).alloc o3).heap[w.heap.size + 1]? = some o2 := by
  have h := heap_alloc_new (w.alloc o1) o2
  rw [show (w.alloc o1).heap.size = w.heap.size + 1 by simp] at h
  exact ((ba_ (Below.refl ((w.alloc o1).alloc o2).heap.size ((w.alloc o1).alloc o2)) o3).block _ (by simp)).trans h
set_option maxHeartbeats 1000000 in
theorem szP_calls (k : Nat) (A : Option Addr) (c : Nat) (l : List ByteArray) (a1 : Int) (r : Int) (w : World) (hr : Kd.C Kd.string w A l.length l) (hc : l.length ≤ c) (h : laws_szProgram.f k l a1 = some r) :
    Calls Tryz.prog 10 #[.agg #[.slice A l.length c], .int .i64 a1] w fun e w' => e = .returned (.int .i64 r) ∧ Below w.heap.size w w' := by
  obtain ⟨x, hx, hr2⟩ := Option.bind_eq_some_iff.mp h
  have HR := As_.mk hr
  have HC := As_.mk hc
  have HX := As_.mk hx
  clear hr hc hx h
  by_cases hn : x < 0
  · rw [if_pos hn] at hr2
    obtain rfl := Option.some.inj hr2
    have hd : decide (x < 0) = true := decide_eq_true hn
    have HD := As_.mk hd
    clear hr2 hn hd
    go_enter Tryz.func10, Tryz.ntmps10
    go_wp2_with fail
    refine (laws_szStringS.calls k A c l a1 x _ (Kd.C_alloc HR.out _) HC.out HX.out).mono ?_
    rintro e w1 ⟨rfl, hb⟩
    have HB := As_.mk ((ba_ (Below.refl w.heap.size w) (.cells #[.slice A l.length c] 24)).trans (drawn_below hb))
    clear hb
    have hd := HD.out
    go_wp2_with fail
    go_ret
    exact ⟨rfl, HB.out⟩
  · rw [if_neg hn] at hr2
    obtain rfl := Option.some.inj hr2
    have hd : decide (x < 0) = false := decide_eq_false hn
    have HD := As_.mk hd
    clear hr2 hn hd
    go_enter Tryz.func10, Tryz.ntmps10
    go_wp2_with fail
    refine (laws_szStringS.calls k A c l a1 x _ (Kd.C_alloc HR.out _) HC.out HX.out).mono ?_
    rintro e w1 ⟨rfl, hb⟩
    have HB := As_.mk ((ba_ (Below.refl w.heap.size w) (.cells #[.slice A l.length c] 24)).trans (drawn_below hb))
    clear hb
    have hd := HD.out
    go_wp2_with fail
    go_ret
    exact ⟨rfl, HB.out⟩
set_option maxHeartbeats 1000000 in
theorem eqP_calls (k : Nat) (A : Option Addr) (c : Nat) (l : List ByteArray) (A1 : Option Addr) (c1 : Nat) (l1 : List ByteArray) (r : Bool) (w : World) (hr : Kd.C Kd.string w A l.length l) (hc : l.length ≤ c) (hr1 : Kd.C Kd.string w A1 l1.length l1) (hc1 : l1.length ≤ c1) (h : laws_eqProgram.f k l l1 = some r) :
    Calls Tryz.prog 14 #[.agg #[.slice A l.length c], .agg #[.slice A1 l1.length c1]] w fun e w' => e = .returned (.bool r) ∧ Below w.heap.size w w' := by
  obtain ⟨x, hx, hr2⟩ := Option.bind_eq_some_iff.mp h
  have hrx : x = r := by cases x <;> simpa using hr2
  subst hrx
  have HR := As_.mk hr
  have HC := As_.mk hc
  have HR1 := As_.mk hr1
  have HC1 := As_.mk hc1
  have HX := As_.mk hx
  clear hr hc hx h hr2 hr1 hc1
  go_enter Tryz.func14, Tryz.ntmps14
  go_wp2_with fail
  refine (laws_eqStringS.calls k A c l A1 c1 l1 x _ (Kd.C_alloc (Kd.C_alloc HR.out _) _) HC.out (Kd.C_alloc (Kd.C_alloc HR1.out _) _) HC1.out HX.out).mono ?_
  rintro e w1 ⟨rfl, hb⟩
  have HB := As_.mk ((ba_ (ba_ (Below.refl w.heap.size w) (.cells #[.slice A l.length c] 28)) (.cells #[.slice A1 l1.length c1] 28)).trans (drawn_below hb))
  clear hb
  cases x
  · go_wp2_with fail
    go_ret
    exact ⟨rfl, HB.out⟩
  · go_wp2_with fail
    go_ret
    exact ⟨rfl, HB.out⟩
set_option maxHeartbeats 1000000 in
theorem toP_calls (k : Nat) (A : Option Addr) (c : Nat) (l : List ByteArray) (r : List ByteArray) (w : World) (hr : Kd.C Kd.string w A l.length l) (hc : l.length ≤ c) (h : laws_toProgram.f k l = some r) :
    Calls Tryz.prog 12 #[.agg #[.slice A l.length c]] w fun e w' => ∃ v : Value, e = .returned (.agg #[v]) ∧ Kd.R Kd.string 9 w' w.heap.size (fun _ => True) v r ∧ Below w.heap.size w w' := by
  obtain ⟨x, hx, hr2⟩ := Option.bind_eq_some_iff.mp h
  obtain rfl := Option.some.inj hr2
  have HR := As_.mk hr
  have HC := As_.mk hc
  have HX := As_.mk hx
  clear hr hc hx h hr2
  go_enter Tryz.func12, Tryz.ntmps12
  go_wp2_with fail
  refine (laws_toStringS.calls k A c l x _ (Kd.C_alloc (Kd.C_alloc (Kd.C_alloc HR.out _) _) _) HC.out HX.out).mono ?_
  rintro e w1 ⟨v, rfl, hR, hb⟩
  obtain ⟨A1, c1, rfl⟩ := Kd.R_slice hR
  have hsz : (((w.alloc (.cells #[.slice A l.length c] 24)).alloc (.cells #[.slice none 0 0] 28)).alloc (.cells #[.slice none 0 0] 28)).heap.size = w.heap.size + 1 + 1 + 1 := by simp
  have hb1 : w1.heap[w.heap.size + 1]? = some (.cells #[.slice none 0 0] 28 (0, 0)) := (hb.block _ (by rw [hsz]; omega)).trans (alloc_at1 _ _ _ _)
  have hb2 : w1.heap[w.heap.size + 1 + 1]? = some (.cells #[.slice none 0 0] 28 (0, 0)) := (hb.block _ (by rw [hsz]; omega)).trans (alloc_at2 _ _ _ _)
  have HB : As_ (Below w.heap.size w w1) := ⟨(ba_ (ba_ (ba_ (Below.refl w.heap.size w) _) _) _).trans (hb.mono (by rw [hsz]; omega))⟩
  have HR1 : As_ (Kd.R Kd.string 9 w1 (w.heap.size + 1 + 1 + 1) (fun k => w.heap.size + 1 + 1 + 1 ≤ k) (.slice A1 x.length c1) x) := ⟨by rw [hsz] at hR; exact Kd.R_mono (Kd.R_bound hR) (fun k hk => hk.2.1)⟩
  have HB1 := As_.mk hb1
  have HB2 := As_.mk hb2
  have f1 := kf_ hb1 0
  have f2 := kf_ hb2 0
  have k1 := kc_ hb1 0
  have k2 := kc_ hb2 0
  simp only [List.getElem?_toArray, List.getElem?_cons_zero, List.getElem?_cons_succ] at k1 k2
  clear hb hR hb1 hb2 hsz
  obtain ⟨N, hN⟩ : ∃ x, w.heap.size = x := ⟨_, rfl⟩
  have HN := As_.mk hN
  rw [hN] at HB HB1 HB2 HR1 f1 f2 k1 k2 ⊢
  clear hN
  go_wp2_with fail
  have hfar : (w1.setCell ⟨N + 1 + 1, 0, none⟩ (.slice A1 x.length c1)).heap[N + 1]? = some (.cells #[.slice none 0 0] 28 (0, 0)) := (Below.heap_setCell w1 ⟨N + 1 + 1, 0, none⟩ (.slice A1 x.length c1) (N + 1) (by show N + 1 ≠ N + 1 + 1; omega)).trans HB1.out
  have hend : ((w1.setCell ⟨N + 1 + 1, 0, none⟩ (.slice A1 x.length c1)).setCell ⟨N + 1, 0, none⟩ (.slice A1 x.length c1)).heap[N + 1]? = some (.cells #[.slice A1 x.length c1] 28 (0, 0)) := (blk_set hfar 0 _).trans rfl
  refine bodyPost_ret (results_cell_row rfl _ _ (N + 1) 28 #[.slice A1 x.length c1] (0, 0) _ rfl hend Tryz.underlying28 rfl (by kernel_rfl)) rfl ?_
  have hr := Kd.R_far (p := ⟨N + 1, 0, none⟩) (Kd.R_far (p := ⟨N + 1 + 1, 0, none⟩) HR1.out (fun k hk => by show k ≠ N + 1 + 1; omega) (.slice A1 x.length c1)) (fun k hk => by show k ≠ N + 1; omega) (.slice A1 x.length c1)
  have hle : w.heap.size ≤ N := Nat.le_of_eq HN.out
  have hB : Below w.heap.size w w1 := by have := HB.out; rw [← HN.out] at this; exact this
  exact ⟨_, rfl, Kd.R_mono (Kd.R_lower hr (by omega)) (fun _ _ => trivial), bs_ (bs_ hB (by show w.heap.size ≤ N + 1 + 1; omega)) (by show w.heap.size ≤ N + 1; omega)⟩
set_option maxHeartbeats 2000000 in
theorem law_ProgramText {w : World} {A : Option Addr} {c : Nat} {ws : List ByteArray} (hrow : Kd.C Kd.string w A ws.length ws) (hcap : ws.length ≤ c) (hsize : ∀ j : Nat, j < ws.length → (rdOf ByteArray.empty ws (j : Int)).size ≤ 9223372036854775807) :
    Calls Tryz.prog 4 #[.agg #[.slice A ws.length c]] w fun e w' => e = .returned (.bool true) ∧ Below w.heap.size w w' := by
  obtain ⟨r, hr, hw⟩ := sz_f (Kd.C_max hrow) hsize
  have HC := As_.mk hrow
  have HCAP := As_.mk hcap
  have HR := As_.mk hr
  have HW := As_.mk hw
  clear hrow hcap hsize hr hw
  go_enter Tryz.func4, Tryz.ntmps4
  go_wp2_with fail
  refine (szP_calls 10000000 A c ws 1048576 r _ (Kd.C_alloc HC.out _) HCAP.out HR.out).mono ?_
  rintro e w1 ⟨rfl, hb⟩
  have hba := (ba_ (Below.refl w.heap.size w) (.cells #[.slice A ws.length c] 24)).trans (hb.mono (by simp))
  have hblk := (hb.block w.heap.size (by simp)).trans (heap_alloc_new w _)
  have HBK1 := As_.mk hblk
  have HB1 := As_.mk hba
  have k0 := kc_ hblk 0
  simp only [List.getElem?_toArray, List.getElem?_cons_zero, List.getElem?_cons_succ] at k0
  clear hb hba hblk
  obtain ⟨N, hNN⟩ : ∃ N, w.heap.size = N := ⟨_, rfl⟩
  have HN := As_.mk hNN
  rw [hNN] at HBK1 k0 ⊢
  clear hNN
  by_cases hneg : r < 0
  · go_wp2_with fail
    go_ret
    exact ⟨rfl, HB1.out⟩
  · obtain ⟨hlen, hsz⟩ := HW.out (by omega)
    have HWD : As_ (Wds w A c ws) := ⟨⟨HC.out, HCAP.out, hlen, hsz⟩⟩
    clear hlen hsz
    go_wp2_with fail
    refine (toP_calls 10000000 A c ws ws _ (HWD.out.below HB1.out).row HCAP.out (to_f HWD.out.len)).mono ?_
    rintro e w2 ⟨v, rfl, hR, hb⟩
    obtain ⟨A1, c1, rfl⟩ := Kd.R_slice hR
    obtain ⟨_, hl1, hC1⟩ := Kd.R_reads' hR
    have HW1 : As_ (Wds w2 A1 c1 ws) := ⟨⟨hC1, hl1, HWD.out.len, HWD.out.size⟩⟩
    have hblk := (hb.block N (heap_lt HBK1.out)).trans HBK1.out
    have HBK2 := As_.mk hblk
    have HB2 := As_.mk (HB1.out.trans (hb.mono HB1.out.size))
    clear hb hblk hR hC1 hl1 k0
    go_wp2_with fail
    refine (ProgramText_spec HW1.out).mono ?_
    rintro e w3 ⟨rfl, hb⟩
    have hblk := (hb.block N (heap_lt HBK2.out)).trans HBK2.out
    have HBK3 := As_.mk hblk
    have HB3 := As_.mk (HB2.out.trans (hb.mono HB2.out.size))
    have k0 := kc_ hblk 0
    simp only [List.getElem?_toArray, List.getElem?_cons_zero, List.getElem?_cons_succ] at k0
    clear hb hblk
    go_wp2_with fail
    refine (toP_calls 10000000 A c ws ws _ (HWD.out.below HB3.out).row HCAP.out (to_f HWD.out.len)).mono ?_
    rintro e w4 ⟨v, rfl, hR, hb⟩
    obtain ⟨A2, c2, rfl⟩ := Kd.R_slice hR
    obtain ⟨_, hl1, hC1⟩ := Kd.R_reads' hR
    have HW2 : As_ (Wds w4 A2 c2 ws) := ⟨⟨hC1, hl1, HWD.out.len, HWD.out.size⟩⟩
    have HBK4 := As_.mk ((hb.block N (heap_lt HBK3.out)).trans HBK3.out)
    have HB4 := As_.mk (HB3.out.trans (hb.mono HB3.out.size))
    clear hb hR hC1 hl1 k0
    go_wp2_with fail
    refine (ProgramText_impl (HW2.out.below (ba_ (Below.refl _ _) _))).mono ?_
    rintro e w5 ⟨rfl, hb⟩
    have hbA := (ba_ (Below.refl w4.heap.size w4) (.cells #[.slice A2 ws.length c2] 28)).trans (hb.mono (by simp))
    have hblk := (hbA.block N (heap_lt HBK4.out)).trans HBK4.out
    have hblk6 := (hb.block w4.heap.size (by simp)).trans (heap_alloc_new w4 _)
    have HBK5 := As_.mk hblk
    have HBK6 := As_.mk hblk6
    have HB5 := As_.mk (HB4.out.trans (hbA.mono HB4.out.size))
    have HW5 := As_.mk (HW2.out.below hbA)
    have k0 := kc_ hblk 0
    have j0 := kc_ hblk6 0
    simp only [List.getElem?_toArray, List.getElem?_cons_zero, List.getElem?_cons_succ] at k0 j0
    clear hb hbA hblk hblk6
    generalize w4.heap.size = N6 at HBK6 j0 ⊢
    go_wp2_with fail
    go_region_with (first
      | (go_at_call 12; refine (toP_calls 10000000 A c ws ws _ (Kd.C_drew (HWD.out.below HB5.out).row) HCAP.out (to_f HWD.out.len)).mono ?_; rintro e w6 ⟨v, rfl, hR, hb⟩; obtain ⟨A3, c3, rfl⟩ := Kd.R_slice hR; obtain ⟨_, hl1, hC1⟩ := Kd.R_reads' hR; have HW6 : As_ (Wds w6 A3 c3 ws) := ⟨⟨hC1, hl1, HWD.out.len, HWD.out.size⟩⟩; have HW56 := As_.mk (HW5.out.below (below_undrew hb)); have hblk6 := ((below_undrew hb).block N6 (heap_lt HBK6.out)).trans HBK6.out; have q0 := kc_ hblk6 0; simp only [List.getElem?_toArray, List.getElem?_cons_zero, List.getElem?_cons_succ] at q0; have HB6 := As_.mk (HB5.out.trans ((below_undrew hb).mono HB5.out.size)); clear hb hR hC1 hl1 hblk6)
      | (go_at_call 14; refine (eqP_calls 10000000 A2 c2 ws A3 c3 ws true _ HW56.out.row HW5.out.cap HW6.out.row HW6.out.cap (eq_f HWD.out.len)).mono ?_; rintro e w7 ⟨rfl, hb⟩; have HB7 := As_.mk (HB6.out.trans (hb.mono HB6.out.size)); clear hb))
    all_goals
      go_wp2_with fail
      go_ret
      exact ⟨rfl, HB7.out⟩
end Go.Proofs.YtlogcnglmdpejaaGreatDoor.Hd
end
section
namespace Go.Proofs.YtlogcnglmdpejaaGreatDoor.Rb
open Go Go.ChangeShapes Go.WideShapes Go.ChangeAt Go.RowKit Go.Joins Go.Deep Go.WideElems
open Go.Proofs.YtlogcnglmdpejaaGreatDoor.Hd Go.Proofs.YtlogcnglmdpejaaGreatDoorW.PrintWords Go.Proofs.YtlogcnglmdpejaaGreatDoorW.PrintLast Go.Proofs.YtlogcnglmdpejaaGreatDoorW.PrintMore
set_option linter.unusedVariables false
set_option linter.unusedSimpArgs false
set_option maxRecDepth 100000
theorem own : ownKnob Tryz.prog.godebug = none := by kernel_rfl
theorem cells24 : Tryz.prog.cellsOf 24 = 1 := by kernel_rfl
theorem cells9 : Tryz.prog.cellsOf 9 = 1 := by kernel_rfl
theorem laidOut : laidOutB Tryz.prog = true := by kernel_rfl
section
variable {H : Type} {enc : TypeId × Value → H} {P : Program} {w : World} {base : Nat} {spare : Nat → Bool} {held : Bool}
theorem array1 {α : Type} {cs : Array α} (h : cs.size = 1) : ∃ c0, cs = #[c0] := by
  obtain ⟨l⟩ := cs
  match l, h with
  | [c0], _ => exact ⟨c0, rfl⟩
theorem trod_struct1 {t : TypeId} {f0 : Field} {fuel : Nat} {cs : List Value} {x : DataW H × List MemPlace} (ht : P.underlying t = some (.struct #[f0])) (h : DataW.trod enc P w base spare held fuel t cs = some x) :
    ∃ y0 n, x = (.agg [y0.1], y0.2) ∧ cs.length = P.cellsOf t ∧ DataW.trod enc P w base spare held n f0.type ((cs.drop f0.offset).take (P.cellsOf f0.type)) = some y0 := by
  obtain ⟨xs, n, _, rfl, hl, hlen, hf⟩ := DataW.trod_struct ht h
  match xs, hlen with
  | [y0], _ => exact ⟨y0, n, by simp, hl, by simpa using hf 0 f0 rfl⟩
theorem open_agg1 {r : Reach} {b0 : Nat} {t : TypeId} {f0 : Field} {v : Value} {d : DataW H} {p : List MemPlace} (hs : P.underlying t = some (.struct #[f0])) (hone : oneCellFields P #[f0] = true) (hC : P.cellsOf t = 1)
    (hv : Value.okWide P w r b0 t v) (h : DataW.Trod enc P w base spare held t v d p) :
    ∃ (v0 : Value) (y0 : DataW H × List MemPlace) (n : Nat), v = .agg #[v0] ∧ DataW.trod enc P w base spare held n f0.type [v0] = some y0 := by
  obtain ⟨cs, rfl, hsz⟩ := okWide_struct hs hv
  obtain ⟨c0, rfl⟩ := array1 (hsz.trans hC)
  obtain ⟨fuel, hf⟩ := h
  obtain ⟨y0, n, hx, _, h0⟩ := trod_struct1 hs hf
  obtain ⟨o0, k0⟩ := hone_of hone 0 f0 rfl
  exact ⟨c0, y0, n, rfl, by simpa [Value.cells, o0, k0] using h0⟩
end
theorem size_of {ws : List ByteArray} (h : ∀ s ∈ ws, s.size ≤ maxLen) : ∀ j : Nat, j < ws.length → (rdOf ByteArray.empty ws (j : Int)).size ≤ 9223372036854775807 := by
  intro j hj
  have e : rdOf ByteArray.empty ws (j : Int) = ws[j] := by
    simp [rdOf, List.getD_eq_getElem?_getD, hj]
  rw [e]
  have := h _ (List.getElem_mem hj)
  simp only [maxLen] at this
  omega
theorem open_words {H : Type} {enc : TypeId × Value → H} {W : World} {b base : Nat} {spare : Nat → Bool} {held : Bool} {r : Reach} {v : Value} {d : DataW H} {p : List MemPlace}
    (hv : Value.okWide Tryz.prog W r b 24 v) (h : DataW.Trod enc Tryz.prog W base spare held 24 v d p) :
    ∃ (A : Option Addr) (c : Nat) (ws : List ByteArray), v = .agg #[.slice A ws.length c] ∧ Kd.C Kd.string W A ws.length ws ∧ ws.length ≤ c ∧ ∀ j : Nat, j < ws.length → (rdOf ByteArray.empty ws (j : Int)).size ≤ 9223372036854775807 := by
  obtain ⟨v0, y0, n, rfl, h0⟩ := open_agg1 Tryz.underlying24 (by kernel_rfl) cells24 hv h
  rcases open_strings Tryz.underlying22 Tryz.underlying9 cells9 h0 with ⟨hcs, _⟩ | ⟨a, len, cap, ss, hcs, _, hl, hm, hz, _, hcell, hsz⟩
  · simp only [List.cons.injEq, and_true] at hcs
    subst hcs
    exact ⟨none, 0, [], rfl, Kd.C_nil _ _, Nat.le_refl _, fun j hj => absurd hj (Nat.not_lt_zero _)⟩
  · simp only [List.cons.injEq, and_true] at hcs
    subst hcs
    have hls : len ≤ ss.length := by rw [hz]; split <;> omega
    have hlen : (ss.take len).length = len := by simp [hls]
    refine ⟨some a, cap, ss.take len, by rw [hlen], ?_, by rw [hlen]; exact hl, size_of fun s hs => hsz s (List.mem_of_mem_take hs)⟩
    refine Kd.C_of_reads (d := ByteArray.empty) ⟨rfl, ?_, fun _ => ⟨a, rfl, fun j hj => ?_⟩⟩
    · rw [hlen]; simp only [maxLen] at hm; omega
    · rw [hlen] at hj
      rw [hcell j (by omega)]
      simp [List.getD_eq_getElem?_getD, List.getElem?_take, hj]
theorem contract (H : Type) (enc : TypeId × Value → H) (W : World) (base : Nat) (args : Array Value) (ds gs : List (DataW H)) (before : List MemPlace)
    (hval : ∀ (j : Nat) t v, Tryz.f4.params[j]? = some t → args[j]? = some v → Value.okWide Tryz.prog W .any base t v)
    (hW : DataW.Whole enc Tryz.prog Tryz.f4.params.toList Rows.fnExactProgramTextSpec.vars false W args.toList ds gs before) :
    Calls Tryz.prog 4 args W fun e W' => ∃ v, e = .returned v ∧ Rows.fnExactProgramTextSpec.post enc Tryz.prog Tryz.f4 false true false false W args v W' := by
  have hW' := hW
  obtain ⟨p, q, hA0, hV, rfl, hfz, hnd⟩ := hW
  have hA : DataW.TrodAll enc Tryz.prog W 0 (fun _ => true) true Tryz.f4.params.toList args.toList ds p := hA0
  rw [Tryz.params4] at hA hval
  obtain ⟨v0, vs0, d0, ds0, p0, q0, hargs, rfl, rfl, h0, r0⟩ := trodAll_cons hA
  obtain ⟨rfl, rfl, rfl⟩ := trodAll_nil r0
  obtain rfl : args = #[v0] := by cases args; simp_all
  obtain ⟨rfl, rfl⟩ := trodVars_none hV
  obtain ⟨A, c, ws, rfl, hrow, hcap, hsize⟩ := open_words (hval 0 24 v0 rfl rfl) h0
  clear hA0
  simp only [List.append_nil] at hW' hfz
  have lt0 : ∀ x ∈ p0, x.block < W.heap.size := by
    intro x hx
    obtain ⟨fuel, hf⟩ := h0
    exact DataW.trod_lt _ _ _ _ hf x hx
  have k0 := h0
  refine (law_ProgramText hrow hcap hsize).mono fun e W' ⟨he, bel⟩ => ?_
  subst he
  exact ⟨_, rfl, _, _, _, [], _, [], hW', trodAll_mk1 (shut_bool Tryz.underlying4 _), trodAll_cons_mk (Below.trod laidOut (by kernel_rfl) (of_decide_eq_true (by kernel_rfl)) k0 bel lt0) trodAll_mk0, rfl, bel.frame _, fun h => by cases h⟩
theorem laid_met (os : Os) : laidMet Tryz.prog Rows.fnExactProgramTextRow.laid ((World.laidAll Tryz.prog os Rows.fnExactProgramTextRow.laid).forCall (fun _ _ => 0) ⟨#[], #[.agg #[.slice none 0 0]], []⟩).memory :=
  laidMet_laidAll _ (by kernel_rfl) (by kernel_rfl)
theorem reads (os : Os) {H : Type} (enc : TypeId × Value → H) : ∃ places, DataW.whole enc Tryz.prog ((World.laidAll Tryz.prog os Rows.fnExactProgramTextRow.laid).forCall (fun _ _ => 0) ⟨#[], #[.agg #[.slice none 0 0]], []⟩).memory Tryz.f4.params.toList Rows.fnExactProgramTextSpec.vars false #[Value.agg #[.slice none 0 0]].toList 8 = some ([.agg [.nil]], [], places) :=
  ⟨[], by kernel_rfl⟩
set_option maxRecDepth 100000 in
theorem lifted (os : Os) (started : os.Started) (H : Type) (enc : TypeId × Value → H) (F : Stop.Interp) :
    ReturnsInHanded {} Tryz.checked os 4 .any ((OpenSpec.ofChange Rows.fnExactProgramTextSpec).preRow enc Tryz.prog Tryz.f4 Rows.fnExactProgramTextRow.domain false Rows.fnExactProgramTextRow.laid) (((OpenSpec.ofChange Rows.fnExactProgramTextSpec).at F).post enc Tryz.prog Tryz.f4 false true false false) := by
  obtain ⟨places, hx⟩ := reads os enc
  refine returnsInHanded_of_row (C := Tryz.checked) (s := OpenSpec.ofChange Rows.fnExactProgramTextSpec) own started (by kernel_rfl) Tryz.func4
    (witness_row_at (enc := enc) (C := Tryz.checked) false (World.laidAll Tryz.prog os Rows.fnExactProgramTextRow.laid) #[.agg #[.slice none 0 0]] (World.laidAll_os _ _ _) (by kernel_rfl) (by kernel_rfl) (by kernel_rfl)
      (OpenSpec.preRow_of_cond 8 hx (by kernel_rfl) (fun k hk => by cases hk) (by kernel_rfl) (laid_met os))) ?_
  intro W base args ds gs before hval hW _ _ _ hL _ _
  exact contract H enc W base args ds gs before hval hW
theorem said : Rows.FnExactProgramTextSaid :=
  OpenClaim.holds_of_cond 4 Tryz.f4 rfl rfl rfl rfl rfl rfl rfl ⟨rfl, rfl, rfl, rfl, rfl⟩ rfl rfl rfl rfl rfl (by kernel_rfl) Tryz.func4 joined
    (of_decide_eq_true (by kernel_rfl)) (by unfold Func.isWrapper; first | (rw [if_pos (by decide +kernel)]; kernel_rfl) | (rw [if_neg (by decide +kernel)]; exact ⟨rfl, rfl⟩))
    (fun os started H enc _ F => by rw [OpenClaim.pre_eq_preRow]; exact lifted os started H enc F)
theorem plain (f : FuncId) (fn : Func) (hf : Tryz.pinned.checked.prog.funcNamed "loop.example/g01172/laws.FnExactProgramText" = some f) (hfn : Tryz.pinned.checked.prog.funcs[f]? = some fn) :
    true = Tryz.pinned.checked.prog.looks [] ∧ ∀ (j : Nat) t, fn.params[j]? = some t → Tryz.pinned.checked.prog.wantsStandIn t = false := by
  obtain rfl : f = 4 := Option.some.inj ((show Tryz.prog.funcNamed "loop.example/g01172/laws.FnExactProgramText" = some 4 by kernel_rfl).symm.trans hf) |>.symm
  obtain rfl : fn = Tryz.f4 := (Option.some.inj (Tryz.func4.symm.trans hfn)).symm
  refine ⟨by kernel_rfl, fun j t ht => ?_⟩
  rw [Tryz.params4] at ht
  obtain rfl : t = 24 := by simpa using Array.mem_of_getElem? ht
  exact (show Tryz.prog.wantsStandIn 24 = false by kernel_rfl)
theorem card : Rows.FnExactProgramTextCardSaid :=
  Claim7.holds_tied_plain_at .later [] _ _ _ _ said (fun _ h => by cases h) (by kernel_rfl) (fun _ h => by cases h) fnExactProgramText_row_tie rfl ⟨rfl, rfl⟩ (by kernel_rfl) rfl plain (by kernel_rfl)
end Go.Proofs.YtlogcnglmdpejaaGreatDoor.Rb
end
