/- The card of the law: for every input the law returns true and the argument reads as before. Conditions: the row's own (the listed tables lie as the program's text lays them). -/
import Derived.Test.YtlogcnglmdpejaaGreatDoorMV25
import Derived.Test.YtlogcnglmdpejaaGreatDoorCards
import Derived.Test.YtlogcnglmdpejaaGreatDoorTie
import Derived.WalkKit
import Derived.ProofKit
import Derived.OpenShut
import Derived.SliceStrings
import Derived.Lib.SmallJoins
import Derived.Lay
import Derived.Deep.DeepHandedRow
import Derived.Test.YtlogcnglmdpejaaGreatDoorMV0
section
namespace Go.Proofs.YtlogcnglmdpejaaGreatDoor.Hd
open Go.RowKit Go.Proofs.YtlogcnglmdpejaaGreatDoorW.PrintWords Go.Proofs.YtlogcnglmdpejaaGreatDoorW.PrintLast Go.Proofs.YtlogcnglmdpejaaGreatDoorW.PrintMore Go.Proofs.YtlogcnglmdpejaaGreatDoor.Pq
attribute [local go_sem] max2_int min2_int max_two min_two max_three min_three max_four min_four
set_option linter.unusedVariables false
set_option linter.unusedSimpArgs false
structure Wds (w : World) (A : Option Addr) (c : Nat) (ws : List ByteArray) : Prop where
  row : Kd.C Kd.string w A ws.length ws
  cap : ws.length ≤ c
  len : ws.length ≤ 1048576
  size : ∀ i : Nat, i < ws.length → (rdOf ByteArray.empty ws (i : Int)).size ≤ 1048576
theorem Wds.size2 {w : World} {A : Option Addr} {c : Nat} {ws : List ByteArray} (h : Wds w A c ws) : ∀ i : Nat, i < ws.length → (rdOf ByteArray.empty ws (i : Int)).size ≤ 1100000 := fun i hi => Nat.le_trans (h.size i hi) (by decide)
theorem Wds.below {w w' : World} {A : Option Addr} {c : Nat} {ws : List ByteArray} (h : Wds w A c ws) (hb : Below w.heap.size w w') : Wds w' A c ws := ⟨Kd.C_below h.row hb, h.cap, h.len, h.size⟩
set_option maxHeartbeats 1000000 in
theorem IsProgram_calls {w : World} {A : Option Addr} {c : Nat} {ws : List ByteArray} (h : Wds w A c ws) : Calls Tryz.prog 39 #[.agg #[.slice A ws.length c]] w fun e w' => e = .returned (.bool (isP ws)) ∧ Below w.heap.size w w' := by
  have H := As_.mk h
  clear h
  go_enter Tryz.func39, Tryz.ntmps39
  go_wp2_with fail
  refine (depthOf_calls (H.out.below (ba_ (Below.refl _ _) _)).row H.out.cap H.out.size2).mono ?_
  rintro e w1 ⟨d, rfl, _, hb⟩
  have HB := As_.mk ((ba_ (Below.refl w.heap.size w) (.cells #[.slice A ws.length c] 28)).trans (hb.mono (by simp)))
  clear hb
  go_wp2_with fail
  go_ret
  exact ⟨rfl, HB.out⟩
set_option maxHeartbeats 1000000 in
theorem l08Is_calls {w : World} {A : Option Addr} {c : Nat} {ws : List ByteArray} (h : Wds w A c ws) : Calls Tryz.prog 50 #[.agg #[.slice A ws.length c]] w fun e w' => e = .returned (.bool (isP ws)) ∧ Below w.heap.size w w' := by
  have H := As_.mk h
  clear h
  have HD := As_.mk (depS_pos ws)
  go_enter Tryz.func50, Tryz.ntmps50
  go_wp2_with fail
  refine (l08Depth_calls (H.out.below (ba_ (Below.refl _ _) _)).row H.out.size2).mono ?_
  rintro e w1 ⟨rfl, hb⟩
  have HB := As_.mk ((ba_ (Below.refl w.heap.size w) (.cells #[.slice A ws.length c] 28)).trans (hb.mono (by simp)))
  clear hb
  go_wp2_with fail
  go_ret
  exact ⟨by rw [← HD.out]; rfl, HB.out⟩
def vo1 (ws : List ByteArray) : Int := if isP ws = true then needV ws else 0
def vo2 (ws : List ByteArray) : Int := if isP ws = true then 0 else 1
set_option maxHeartbeats 1000000 in
theorem VariablesOf_impl {w : World} {A : Option Addr} {c : Nat} {ws : List ByteArray} (h : Wds w A c ws) : Calls Tryz.prog 13 #[.agg #[.slice A ws.length c]] w fun e w' => e = .returned (.tuple #[.int .i64 (vo1 ws), .int .i64 (vo2 ws)]) ∧ Below w.heap.size w w' := by
  have H := As_.mk h
  clear h
  obtain ⟨b, hb⟩ : ∃ b, isP ws = b := ⟨_, rfl⟩
  have HI := As_.mk hb
  have HV1 : As_ (vo1 ws = if b = true then needV ws else 0) := ⟨by unfold vo1; rw [hb]⟩
  have HV2 : As_ (vo2 ws = if b = true then 0 else 1) := ⟨by unfold vo2; rw [hb]⟩
  clear hb
  go_enter Tryz.func13, Tryz.ntmps13
  go_wp2_with fail
  refine (IsProgram_calls (H.out.below (ba_ (Below.refl _ _) _))).mono ?_
  rintro e w1 ⟨rfl, hb⟩
  rw [HI.out]
  have hba := (ba_ (Below.refl w.heap.size w) (.cells #[.slice A ws.length c] 28)).trans (hb.mono (by simp))
  have hblk := (hb.block w.heap.size (by simp)).trans (heap_alloc_new w _)
  have k0 := kc_ hblk 0
  simp only [List.getElem?_toArray, List.getElem?_cons_zero, List.getElem?_cons_succ] at k0
  have HB := As_.mk hba
  clear hb hba hblk
  cases b
  · go_wp2_with fail
    go_ret2
    exact ⟨by rw [HV1.out, HV2.out]; rfl, HB.out⟩
  · go_wp2_with fail
    refine (impl_needs.calls 10000000 A c ws (needV ws) _ (H.out.below HB.out).row H.out.cap (needs_f H.out.len)).mono ?_
    rintro e w2 ⟨rfl, hb⟩
    have HB2 := As_.mk (HB.out.trans (hb.mono HB.out.size))
    clear hb
    go_wp2_with fail
    go_ret2
    exact ⟨by rw [HV1.out, HV2.out]; rfl, HB2.out⟩
set_option maxHeartbeats 1000000 in
theorem VariablesOf_spec {w : World} {A : Option Addr} {c : Nat} {ws : List ByteArray} (h : Wds w A c ws) : Calls Tryz.prog 11 #[.agg #[.slice A ws.length c]] w fun e w' => e = .returned (.tuple #[.int .i64 (vo1 ws), .int .i64 (vo2 ws)]) ∧ Below w.heap.size w w' := by
  have H := As_.mk h
  clear h
  obtain ⟨b, hb⟩ : ∃ b, isP ws = b := ⟨_, rfl⟩
  have HI := As_.mk hb
  have HV1 : As_ (vo1 ws = if b = true then needV ws else 0) := ⟨by unfold vo1; rw [hb]⟩
  have HV2 : As_ (vo2 ws = if b = true then 0 else 1) := ⟨by unfold vo2; rw [hb]⟩
  clear hb
  go_enter Tryz.func11, Tryz.ntmps11
  go_wp2_with fail
  refine (l08Is_calls (H.out.below (ba_ (Below.refl _ _) _))).mono ?_
  rintro e w1 ⟨rfl, hb⟩
  rw [HI.out]
  have hba := (ba_ (Below.refl w.heap.size w) (.cells #[.slice A ws.length c] 28)).trans (hb.mono (by simp))
  have hblk := (hb.block w.heap.size (by simp)).trans (heap_alloc_new w _)
  have k0 := kc_ hblk 0
  simp only [List.getElem?_toArray, List.getElem?_cons_zero, List.getElem?_cons_succ] at k0
  have HB := As_.mk hba
  clear hb hba hblk
  cases b
  · go_wp2_with fail
    go_ret2
    exact ⟨by rw [HV1.out, HV2.out]; rfl, HB.out⟩
  · go_wp2_with fail
    refine (spec_l08Variables.calls 10000000 A c ws (needV ws) _ (H.out.below HB.out).row H.out.cap (vars_f H.out.len)).mono ?_
    rintro e w2 ⟨rfl, hb⟩
    have HB2 := As_.mk (HB.out.trans (hb.mono HB.out.size))
    clear hb
    go_wp2_with fail
    go_ret2
    exact ⟨by rw [HV1.out, HV2.out]; rfl, HB2.out⟩
set_option maxHeartbeats 2000000 in
theorem law_VariablesOf {w : World} {A : Option Addr} {c : Nat} {ws : List ByteArray} (hrow : Kd.C Kd.string w A ws.length ws) (hcap : ws.length ≤ c) (hsize : ∀ j : Nat, j < ws.length → (rdOf ByteArray.empty ws (j : Int)).size ≤ 9223372036854775807) :
    Calls Tryz.prog 3 #[.agg #[.slice A ws.length c]] w fun e w' => e = .returned (.bool true) ∧ Below w.heap.size w w' := by
  obtain ⟨r, hr, hw⟩ := sz_f (Kd.C_max hrow) hsize
  have HC := As_.mk hrow
  have HCAP := As_.mk hcap
  have HR := As_.mk hr
  have HW := As_.mk hw
  clear hrow hcap hsize hr hw
  go_enter Tryz.func3, Tryz.ntmps3
  go_wp2_with fail
  refine (laws_szProgram.calls 10000000 A c ws 1048576 r _ (Kd.C_alloc HC.out _) HCAP.out HR.out).mono ?_
  rintro e w1 ⟨rfl, hb⟩
  have hba := (ba_ (Below.refl w.heap.size w) (.cells #[.slice A ws.length c] 24)).trans (hb.mono (by simp))
  have hblk := (hb.block w.heap.size (by simp)).trans (heap_alloc_new w _)
  have HBK1 := As_.mk hblk
  have HB1 := As_.mk hba
  have k0 := kc_ hblk 0
  simp only [List.getElem?_toArray, List.getElem?_cons_zero, List.getElem?_cons_succ] at k0
  clear hb hba hblk
  obtain ⟨N, hNN⟩ : ∃ N, w.heap.size = N := ⟨_, rfl⟩
  have HN := As_.mk hNN
  rw [hNN] at HBK1 k0 ⊢
  clear hNN
  by_cases hneg : r < 0
  · go_wp2_with fail
    go_ret
    exact ⟨rfl, HB1.out⟩
  · obtain ⟨hlen, hsz⟩ := HW.out (by omega)
    have HWD : As_ (Wds w A c ws) := ⟨⟨HC.out, HCAP.out, hlen, hsz⟩⟩
    clear hlen hsz
    go_wp2_with fail
    refine (laws_toProgram.calls 10000000 A c ws ws _ (HWD.out.below HB1.out).row HCAP.out (to_f HWD.out.len)).mono ?_
    rintro e w2 ⟨v, rfl, hR, hb⟩
    obtain ⟨A1, c1, rfl⟩ := Kd.R_slice hR
    obtain ⟨_, hl1, hC1⟩ := Kd.R_reads' hR
    have HW1 : As_ (Wds w2 A1 c1 ws) := ⟨⟨hC1, hl1, HWD.out.len, HWD.out.size⟩⟩
    have hblk := (hb.block N (heap_lt HBK1.out)).trans HBK1.out
    have HBK2 := As_.mk hblk
    have HB2 := As_.mk (HB1.out.trans (hb.mono HB1.out.size))
    clear hb hblk hR hC1 hl1 k0
    go_wp2_with fail
    refine (VariablesOf_spec HW1.out).mono ?_
    rintro e w3 ⟨rfl, hb⟩
    have hblk := (hb.block N (heap_lt HBK2.out)).trans HBK2.out
    have HBK3 := As_.mk hblk
    have HB3 := As_.mk (HB2.out.trans (hb.mono HB2.out.size))
    have k0 := kc_ hblk 0
    simp only [List.getElem?_toArray, List.getElem?_cons_zero, List.getElem?_cons_succ] at k0
    clear hb hblk
    go_wp2_with fail
    refine (laws_toProgram.calls 10000000 A c ws ws _ (HWD.out.below HB3.out).row HCAP.out (to_f HWD.out.len)).mono ?_
    rintro e w4 ⟨v, rfl, hR, hb⟩
    obtain ⟨A2, c2, rfl⟩ := Kd.R_slice hR
    obtain ⟨_, hl1, hC1⟩ := Kd.R_reads' hR
    have HW2 : As_ (Wds w4 A2 c2 ws) := ⟨⟨hC1, hl1, HWD.out.len, HWD.out.size⟩⟩
    have HBK4 := As_.mk ((hb.block N (heap_lt HBK3.out)).trans HBK3.out)
    have HB4 := As_.mk (HB3.out.trans (hb.mono HB3.out.size))
    clear hb hR hC1 hl1 k0
    go_wp2_with fail
    refine (VariablesOf_impl (HW2.out.below (ba_ (Below.refl _ _) _))).mono ?_
    rintro e w5 ⟨rfl, hb⟩
    have hbA := (ba_ (Below.refl w4.heap.size w4) (.cells #[.slice A2 ws.length c2] 28)).trans (hb.mono (by simp))
    have hblk := (hbA.block N (heap_lt HBK4.out)).trans HBK4.out
    have hblk6 := (hb.block w4.heap.size (by simp)).trans (heap_alloc_new w4 _)
    have HBK5 := As_.mk hblk
    have HBK6 := As_.mk hblk6
    have HB5 := As_.mk (HB4.out.trans (hbA.mono HB4.out.size))
    have HW5 := As_.mk (HW2.out.below hbA)
    have k0 := kc_ hblk 0
    have j0 := kc_ hblk6 0
    simp only [List.getElem?_toArray, List.getElem?_cons_zero, List.getElem?_cons_succ] at k0 j0
    clear hb hbA hblk hblk6
    generalize w4.heap.size = N6 at HBK6 j0 ⊢
    go_wp2_with fail
    go_region_with (first
      | (go_at_call 12; refine (laws_toProgram.calls 10000000 A c ws ws _ (Kd.C_drew (HWD.out.below HB5.out).row) HCAP.out (to_f HWD.out.len)).mono ?_; rintro e w6 ⟨v, rfl, hR, hb⟩; obtain ⟨A3, c3, rfl⟩ := Kd.R_slice hR; obtain ⟨_, hl1, hC1⟩ := Kd.R_reads' hR; have HW6 : As_ (Wds w6 A3 c3 ws) := ⟨⟨hC1, hl1, HWD.out.len, HWD.out.size⟩⟩; have HW56 := As_.mk (HW5.out.below (below_undrew hb)); have hblk6 := ((below_undrew hb).block N6 (heap_lt HBK6.out)).trans HBK6.out; have q0 := kc_ hblk6 0; simp only [List.getElem?_toArray, List.getElem?_cons_zero, List.getElem?_cons_succ] at q0; have HB6 := As_.mk (HB5.out.trans ((below_undrew hb).mono HB5.out.size)); clear hb hR hC1 hl1 hblk6)
      | (go_at_call 14; refine (laws_eqProgram.calls 10000000 A2 c2 ws A3 c3 ws true _ HW56.out.row HW5.out.cap HW6.out.row HW6.out.cap (eq_f HWD.out.len)).mono ?_; rintro e w7 ⟨rfl, hb⟩; have HB7 := As_.mk (HB6.out.trans (hb.mono HB6.out.size)); clear hb))
    all_goals
      go_wp2_with fail
      go_ret
      exact ⟨rfl, HB7.out⟩
end Go.Proofs.YtlogcnglmdpejaaGreatDoor.Hd
end
section
namespace Go.Proofs.YtlogcnglmdpejaaGreatDoor.Ra
open Go Go.ChangeShapes Go.WideShapes Go.ChangeAt Go.RowKit Go.Joins Go.Deep Go.WideElems
open Go.Proofs.YtlogcnglmdpejaaGreatDoor.Hd Go.Proofs.YtlogcnglmdpejaaGreatDoorW.PrintWords Go.Proofs.YtlogcnglmdpejaaGreatDoorW.PrintLast Go.Proofs.YtlogcnglmdpejaaGreatDoorW.PrintMore
set_option linter.unusedVariables false
set_option linter.unusedSimpArgs false
set_option maxRecDepth 100000
theorem own : ownKnob Tryz.prog.godebug = none := by kernel_rfl
theorem cells24 : Tryz.prog.cellsOf 24 = 1 := by kernel_rfl
theorem cells9 : Tryz.prog.cellsOf 9 = 1 := by kernel_rfl
theorem laidOut : laidOutB Tryz.prog = true := by kernel_rfl
section
variable {H : Type} {enc : TypeId × Value → H} {P : Program} {w : World} {base : Nat} {spare : Nat → Bool} {held : Bool}
theorem array1 {α : Type} {cs : Array α} (h : cs.size = 1) : ∃ c0, cs = #[c0] := by
  obtain ⟨l⟩ := cs
  match l, h with
  | [c0], _ => exact ⟨c0, rfl⟩
theorem trod_struct1 {t : TypeId} {f0 : Field} {fuel : Nat} {cs : List Value} {x : DataW H × List MemPlace} (ht : P.underlying t = some (.struct #[f0])) (h : DataW.trod enc P w base spare held fuel t cs = some x) :
    ∃ y0 n, x = (.agg [y0.1], y0.2) ∧ cs.length = P.cellsOf t ∧ DataW.trod enc P w base spare held n f0.type ((cs.drop f0.offset).take (P.cellsOf f0.type)) = some y0 := by
  obtain ⟨xs, n, _, rfl, hl, hlen, hf⟩ := DataW.trod_struct ht h
  match xs, hlen with
  | [y0], _ => exact ⟨y0, n, by simp, hl, by simpa using hf 0 f0 rfl⟩
theorem open_agg1 {r : Reach} {b0 : Nat} {t : TypeId} {f0 : Field} {v : Value} {d : DataW H} {p : List MemPlace} (hs : P.underlying t = some (.struct #[f0])) (hone : oneCellFields P #[f0] = true) (hC : P.cellsOf t = 1)
    (hv : Value.okWide P w r b0 t v) (h : DataW.Trod enc P w base spare held t v d p) :
    ∃ (v0 : Value) (y0 : DataW H × List MemPlace) (n : Nat), v = .agg #[v0] ∧ DataW.trod enc P w base spare held n f0.type [v0] = some y0 := by
  obtain ⟨cs, rfl, hsz⟩ := okWide_struct hs hv
  obtain ⟨c0, rfl⟩ := array1 (hsz.trans hC)
  obtain ⟨fuel, hf⟩ := h
  obtain ⟨y0, n, hx, _, h0⟩ := trod_struct1 hs hf
  obtain ⟨o0, k0⟩ := hone_of hone 0 f0 rfl
  exact ⟨c0, y0, n, rfl, by simpa [Value.cells, o0, k0] using h0⟩
end
theorem size_of {ws : List ByteArray} (h : ∀ s ∈ ws, s.size ≤ maxLen) : ∀ j : Nat, j < ws.length → (rdOf ByteArray.empty ws (j : Int)).size ≤ 9223372036854775807 := by
  intro j hj
  have e : rdOf ByteArray.empty ws (j : Int) = ws[j] := by
    simp [rdOf, List.getD_eq_getElem?_getD, hj]
  rw [e]
  have := h _ (List.getElem_mem hj)
  simp only [maxLen] at this
  omega
theorem open_words {H : Type} {enc : TypeId × Value → H} {W : World} {b base : Nat} {spare : Nat → Bool} {held : Bool} {r : Reach} {v : Value} {d : DataW H} {p : List MemPlace}
    (hv : Value.okWide Tryz.prog W r b 24 v) (h : DataW.Trod enc Tryz.prog W base spare held 24 v d p) :
    ∃ (A : Option Addr) (c : Nat) (ws : List ByteArray), v = .agg #[.slice A ws.length c] ∧ Kd.C Kd.string W A ws.length ws ∧ ws.length ≤ c ∧ ∀ j : Nat, j < ws.length → (rdOf ByteArray.empty ws (j : Int)).size ≤ 9223372036854775807 := by
  obtain ⟨v0, y0, n, rfl, h0⟩ := open_agg1 Tryz.underlying24 (by kernel_rfl) cells24 hv h
  rcases open_strings Tryz.underlying22 Tryz.underlying9 cells9 h0 with ⟨hcs, _⟩ | ⟨a, len, cap, ss, hcs, _, hl, hm, hz, _, hcell, hsz⟩
  · simp only [List.cons.injEq, and_true] at hcs
    subst hcs
    exact ⟨none, 0, [], rfl, Kd.C_nil _ _, Nat.le_refl _, fun j hj => absurd hj (Nat.not_lt_zero _)⟩
  · simp only [List.cons.injEq, and_true] at hcs
    subst hcs
    have hls : len ≤ ss.length := by rw [hz]; split <;> omega
    have hlen : (ss.take len).length = len := by simp [hls]
    refine ⟨some a, cap, ss.take len, by rw [hlen], ?_, by rw [hlen]; exact hl, size_of fun s hs => hsz s (List.mem_of_mem_take hs)⟩
    refine Kd.C_of_reads (d := ByteArray.empty) ⟨rfl, ?_, fun _ => ⟨a, rfl, fun j hj => ?_⟩⟩
    · rw [hlen]; simp only [maxLen] at hm; omega
    · rw [hlen] at hj
      rw [hcell j (by omega)]
      simp [List.getD_eq_getElem?_getD, List.getElem?_take, hj]
theorem contract (H : Type) (enc : TypeId × Value → H) (W : World) (base : Nat) (args : Array Value) (ds gs : List (DataW H)) (before : List MemPlace)
    (hval : ∀ (j : Nat) t v, Tryz.f3.params[j]? = some t → args[j]? = some v → Value.okWide Tryz.prog W .any base t v)
    (hW : DataW.Whole enc Tryz.prog Tryz.f3.params.toList Rows.fnExactVariablesOfSpec.vars false W args.toList ds gs before) :
    Calls Tryz.prog 3 args W fun e W' => ∃ v, e = .returned v ∧ Rows.fnExactVariablesOfSpec.post enc Tryz.prog Tryz.f3 false true false false W args v W' := by
  have hW' := hW
  obtain ⟨p, q, hA0, hV, rfl, hfz, hnd⟩ := hW
  have hA : DataW.TrodAll enc Tryz.prog W 0 (fun _ => true) true Tryz.f3.params.toList args.toList ds p := hA0
  rw [Tryz.params3] at hA hval
  obtain ⟨v0, vs0, d0, ds0, p0, q0, hargs, rfl, rfl, h0, r0⟩ := trodAll_cons hA
  obtain ⟨rfl, rfl, rfl⟩ := trodAll_nil r0
  obtain rfl : args = #[v0] := by cases args; simp_all
  obtain ⟨rfl, rfl⟩ := trodVars_none hV
  obtain ⟨A, c, ws, rfl, hrow, hcap, hsize⟩ := open_words (hval 0 24 v0 rfl rfl) h0
  clear hA0
  simp only [List.append_nil] at hW' hfz
  have lt0 : ∀ x ∈ p0, x.block < W.heap.size := by
    intro x hx
    obtain ⟨fuel, hf⟩ := h0
    exact DataW.trod_lt _ _ _ _ hf x hx
  have k0 := h0
  refine (law_VariablesOf hrow hcap hsize).mono fun e W' ⟨he, bel⟩ => ?_
  subst he
  exact ⟨_, rfl, _, _, _, [], _, [], hW', trodAll_mk1 (shut_bool Tryz.underlying4 _), trodAll_cons_mk (Below.trod laidOut (by kernel_rfl) (of_decide_eq_true (by kernel_rfl)) k0 bel lt0) trodAll_mk0, rfl, bel.frame _, fun h => by cases h⟩
theorem laid_met (os : Os) : laidMet Tryz.prog Rows.fnExactVariablesOfRow.laid ((World.laidAll Tryz.prog os Rows.fnExactVariablesOfRow.laid).forCall (fun _ _ => 0) ⟨#[], #[.agg #[.slice none 0 0]], []⟩).memory :=
  laidMet_laidAll _ (by kernel_rfl) (by kernel_rfl)
theorem reads (os : Os) {H : Type} (enc : TypeId × Value → H) : ∃ places, DataW.whole enc Tryz.prog ((World.laidAll Tryz.prog os Rows.fnExactVariablesOfRow.laid).forCall (fun _ _ => 0) ⟨#[], #[.agg #[.slice none 0 0]], []⟩).memory Tryz.f3.params.toList Rows.fnExactVariablesOfSpec.vars false #[Value.agg #[.slice none 0 0]].toList 8 = some ([.agg [.nil]], [], places) :=
  ⟨[], by kernel_rfl⟩
set_option maxRecDepth 100000 in
theorem lifted (os : Os) (started : os.Started) (H : Type) (enc : TypeId × Value → H) (F : Stop.Interp) :
    ReturnsInHanded {} Tryz.checked os 3 .any ((OpenSpec.ofChange Rows.fnExactVariablesOfSpec).preRow enc Tryz.prog Tryz.f3 Rows.fnExactVariablesOfRow.domain false Rows.fnExactVariablesOfRow.laid) (((OpenSpec.ofChange Rows.fnExactVariablesOfSpec).at F).post enc Tryz.prog Tryz.f3 false true false false) := by
  obtain ⟨places, hx⟩ := reads os enc
  refine returnsInHanded_of_row (C := Tryz.checked) (s := OpenSpec.ofChange Rows.fnExactVariablesOfSpec) own started (by kernel_rfl) Tryz.func3
    (witness_row_at (enc := enc) (C := Tryz.checked) false (World.laidAll Tryz.prog os Rows.fnExactVariablesOfRow.laid) #[.agg #[.slice none 0 0]] (World.laidAll_os _ _ _) (by kernel_rfl) (by kernel_rfl) (by kernel_rfl)
      (OpenSpec.preRow_of_cond 8 hx (by kernel_rfl) (fun k hk => by cases hk) (by kernel_rfl) (laid_met os))) ?_
  intro W base args ds gs before hval hW _ _ _ hL _ _
  exact contract H enc W base args ds gs before hval hW
theorem said : Rows.FnExactVariablesOfSaid :=
  OpenClaim.holds_of_cond 3 Tryz.f3 rfl rfl rfl rfl rfl rfl rfl ⟨rfl, rfl, rfl, rfl, rfl⟩ rfl rfl rfl rfl rfl (by kernel_rfl) Tryz.func3 joined
    (of_decide_eq_true (by kernel_rfl)) (by unfold Func.isWrapper; first | (rw [if_pos (by decide +kernel)]; kernel_rfl) | (rw [if_neg (by decide +kernel)]; exact ⟨rfl, rfl⟩))
    (fun os started H enc _ F => by rw [OpenClaim.pre_eq_preRow]; exact lifted os started H enc F)
theorem plain (f : FuncId) (fn : Func) (hf : Tryz.pinned.checked.prog.funcNamed "loop.example/g01172/laws.FnExactVariablesOf" = some f) (hfn : Tryz.pinned.checked.prog.funcs[f]? = some fn) :
    true = Tryz.pinned.checked.prog.looks [] ∧ ∀ (j : Nat) t, fn.params[j]? = some t → Tryz.pinned.checked.prog.wantsStandIn t = false := by
  obtain rfl : f = 3 := Option.some.inj ((show Tryz.prog.funcNamed "loop.example/g01172/laws.FnExactVariablesOf" = some 3 by kernel_rfl).symm.trans hf) |>.symm
  obtain rfl : fn = Tryz.f3 := (Option.some.inj (Tryz.func3.symm.trans hfn)).symm
  refine ⟨by kernel_rfl, fun j t ht => ?_⟩
  rw [Tryz.params3] at ht
  obtain rfl : t = 24 := by simpa using Array.mem_of_getElem? ht
  exact (show Tryz.prog.wantsStandIn 24 = false by kernel_rfl)
theorem card : Rows.FnExactVariablesOfCardSaid :=
  Claim7.holds_tied_plain_at .later [] _ _ _ _ said (fun _ h => by cases h) (by kernel_rfl) (fun _ h => by cases h) fnExactVariablesOf_row_tie rfl ⟨rfl, rfl⟩ (by kernel_rfl) rfl plain (by kernel_rfl)
end Go.Proofs.YtlogcnglmdpejaaGreatDoor.Ra
end
