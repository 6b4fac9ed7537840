/- The card of the law: for every input the law returns true and the argument reads as before. Conditions: the row's own (the listed tables lie as the program's text lays them). -/
import Derived.Test.YtlogcnglmdpejaaGreatDoorCards
import Derived.Test.YtlogcnglmdpejaaGreatDoorTie
import Derived.WalkKit
import Derived.ProofKit
import Derived.OpenShut
import Derived.Shelf.Vars
import Derived.ChangeMaps5
import Derived.SliceStrings
import Derived.Lib.SmallJoins
import Derived.Lay
import Derived.Deep.DeepHandedRow
import Derived.Test.YtlogcnglmdpejaaGreatDoorMV0
import Derived.Test.YtlogcnglmdpejaaGreatDoorMV1
import Derived.Test.YtlogcnglmdpejaaGreatDoorMV2
import Derived.Test.YtlogcnglmdpejaaGreatDoorMV3
import Derived.Test.YtlogcnglmdpejaaGreatDoorMV4
import Derived.Test.YtlogcnglmdpejaaGreatDoorMV5
import Derived.Test.YtlogcnglmdpejaaGreatDoorMV6
import Derived.Test.YtlogcnglmdpejaaGreatDoorMV7
import Derived.Test.YtlogcnglmdpejaaGreatDoorMV8
import Derived.Test.YtlogcnglmdpejaaGreatDoorMV9
import Derived.Test.YtlogcnglmdpejaaGreatDoorMV10
import Derived.Test.YtlogcnglmdpejaaGreatDoorMV11
import Derived.Test.YtlogcnglmdpejaaGreatDoorMV12
import Derived.Test.YtlogcnglmdpejaaGreatDoorMV13
import Derived.Test.YtlogcnglmdpejaaGreatDoorMV14
import Derived.Test.YtlogcnglmdpejaaGreatDoorMV15
import Derived.Test.YtlogcnglmdpejaaGreatDoorMV16
import Derived.Test.YtlogcnglmdpejaaGreatDoorMV17
import Derived.Test.YtlogcnglmdpejaaGreatDoorMV18
import Derived.Test.YtlogcnglmdpejaaGreatDoorMV19
import Derived.Test.YtlogcnglmdpejaaGreatDoorMV20
import Derived.Test.YtlogcnglmdpejaaGreatDoorMV21
import Derived.Test.YtlogcnglmdpejaaGreatDoorMV22
import Derived.Test.YtlogcnglmdpejaaGreatDoorMV23
import Derived.Test.YtlogcnglmdpejaaGreatDoorMP0
import Derived.Test.YtlogcnglmdpejaaGreatDoorMP1
import Derived.Test.YtlogcnglmdpejaaGreatDoorMP2
section
namespace Go.Proofs.YtlogcnglmdpejaaGreatDoor.Rc
open Go Go.ChangeShapes Go.WideShapes Go.ChangeAt Go.RowKit Go.Joins Go.Deep Go.WideElems
open Go.Proofs.YtlogcnglmdpejaaGreatDoor.Hd Go.Proofs.YtlogcnglmdpejaaGreatDoorW.PrintWords Go.Proofs.YtlogcnglmdpejaaGreatDoorW.PrintLast Go.Proofs.YtlogcnglmdpejaaGreatDoorW.PrintMore
set_option linter.unusedVariables false
set_option linter.unusedSimpArgs false
set_option maxRecDepth 100000
theorem maxlen_cell {W : World} (hSh : W.ShapedOpen Tryz.prog) : ∃ m : Int, W.cell? ⟨1, 0, none⟩ = some (.int .i64 m) :=
  Go.Proofs.cell_of_shapedOpen_int (zero := #[.int .i64 0]) (t := 3) hSh (of_decide_eq_true (by kernel_rfl)) (by kernel_rfl) rfl (by kernel_rfl) (by kernel_rfl) Tryz.underlying3
theorem own : ownKnob Tryz.prog.godebug = none := by kernel_rfl
theorem laidOut : laidOutB Tryz.prog = true := by kernel_rfl
theorem contract (H : Type) (enc : TypeId × Value → H) (W : World) (base : Nat) (args : Array Value) (ds gs : List (DataW H)) (before : List MemPlace)
    (hval : ∀ (j : Nat) t v, Tryz.f5.params[j]? = some t → args[j]? = some v → Value.okWide Tryz.prog W .any base t v)
    (hW : DataW.Whole enc Tryz.prog Tryz.f5.params.toList Rows.fnExactParseProgramSpec.vars false W args.toList ds gs before) (hSh : W.ShapedOpen Tryz.prog) :
    Calls Tryz.prog 5 args W fun e W' => ∃ v, e = .returned v ∧ Rows.fnExactParseProgramSpec.post enc Tryz.prog Tryz.f5 false true false false W args v W' := by
  have hW' := hW
  obtain ⟨p, q, hA0, hV, rfl, hfz, hnd⟩ := hW
  have hA : DataW.TrodAll enc Tryz.prog W 0 (fun _ => true) true Tryz.f5.params.toList args.toList ds p := hA0
  rw [Tryz.params5] at hA hval
  obtain ⟨v0, vs0, d0, ds0, p0, q0, hargs, rfl, rfl, h0, r0⟩ := trodAll_cons hA
  obtain ⟨rfl, rfl, rfl⟩ := trodAll_nil r0
  obtain rfl : args = #[v0] := by cases args; simp_all
  obtain ⟨rfl, rfl⟩ := trodVars_none hV
  obtain ⟨s, rfl, _, _, hsz'⟩ := Go.ChangeMaps.open_string Tryz.underlying9 (hval 0 9 v0 rfl rfl) h0
  have hsz : s.size ≤ 9223372036854775807 := by simp only [maxLen] at hsz'; omega
  obtain ⟨m, hm⟩ := maxlen_cell hSh
  clear hA0
  simp only [List.append_nil] at hW' hfz
  have lt0 : ∀ x ∈ p0, x.block < W.heap.size := by
    intro x hx
    obtain ⟨fuel, hf⟩ := h0
    exact DataW.trod_lt _ _ _ _ hf x hx
  have k0 := h0
  refine (law_ParseProgram hsz hm).mono fun e W' ⟨he, bel⟩ => ?_
  subst he
  exact ⟨_, rfl, _, _, _, [], _, [], hW', trodAll_mk1 (shut_bool Tryz.underlying4 _), trodAll_cons_mk (Below.trod laidOut (by kernel_rfl) (of_decide_eq_true (by kernel_rfl)) k0 bel lt0) trodAll_mk0, rfl, bel.frame _, fun h => by cases h⟩
theorem laid_met (os : Os) : laidMet Tryz.prog Rows.fnExactParseProgramRow.laid ((World.laidAll Tryz.prog os Rows.fnExactParseProgramRow.laid).forCall (fun _ _ => 0) ⟨#[], #[.string ⟨#[]⟩], []⟩).memory :=
  laidMet_laidAll _ (by kernel_rfl) (by kernel_rfl)
theorem reads (os : Os) {H : Type} (enc : TypeId × Value → H) : ∃ places, DataW.whole enc Tryz.prog ((World.laidAll Tryz.prog os Rows.fnExactParseProgramRow.laid).forCall (fun _ _ => 0) ⟨#[], #[.string ⟨#[]⟩], []⟩).memory Tryz.f5.params.toList Rows.fnExactParseProgramSpec.vars false #[Value.string ⟨#[]⟩].toList 8 = some ([.lit (.string [])], [], places) :=
  ⟨[], by kernel_rfl⟩
set_option maxRecDepth 100000 in
theorem lifted (os : Os) (started : os.Started) (H : Type) (enc : TypeId × Value → H) (F : Stop.Interp) :
    ReturnsInHanded {} Tryz.checked os 5 .any ((OpenSpec.ofChange Rows.fnExactParseProgramSpec).preRow enc Tryz.prog Tryz.f5 Rows.fnExactParseProgramRow.domain false Rows.fnExactParseProgramRow.laid) (((OpenSpec.ofChange Rows.fnExactParseProgramSpec).at F).post enc Tryz.prog Tryz.f5 false true false false) := by
  obtain ⟨places, hx⟩ := reads os enc
  refine returnsInHanded_of_row (C := Tryz.checked) (s := OpenSpec.ofChange Rows.fnExactParseProgramSpec) own started (by kernel_rfl) Tryz.func5
    (witness_row_at (enc := enc) (C := Tryz.checked) false (World.laidAll Tryz.prog os Rows.fnExactParseProgramRow.laid) #[.string ⟨#[]⟩] (World.laidAll_os _ _ _) (by kernel_rfl) (by kernel_rfl) (by kernel_rfl)
      (OpenSpec.preRow_of_cond 8 hx (by kernel_rfl) (fun k hk => by cases hk) (by kernel_rfl) (laid_met os))) ?_
  intro W base args ds gs before hval hW _ _ _ hL hSh _
  exact contract H enc W base args ds gs before hval hW hSh
theorem said : Rows.FnExactParseProgramSaid :=
  OpenClaim.holds_of_cond 5 Tryz.f5 rfl rfl rfl rfl rfl rfl rfl ⟨rfl, rfl, rfl, rfl, rfl⟩ rfl rfl rfl rfl rfl (by kernel_rfl) Tryz.func5 joined
    (of_decide_eq_true (by kernel_rfl)) (by unfold Func.isWrapper; first | (rw [if_pos (by decide +kernel)]; kernel_rfl) | (rw [if_neg (by decide +kernel)]; exact ⟨rfl, rfl⟩))
    (fun os started H enc _ F => by rw [OpenClaim.pre_eq_preRow]; exact lifted os started H enc F)
theorem plain (f : FuncId) (fn : Func) (hf : Tryz.pinned.checked.prog.funcNamed "loop.example/g01172/laws.FnExactParseProgram" = some f) (hfn : Tryz.pinned.checked.prog.funcs[f]? = some fn) :
    true = Tryz.pinned.checked.prog.looks [] ∧ ∀ (j : Nat) t, fn.params[j]? = some t → Tryz.pinned.checked.prog.wantsStandIn t = false := by
  obtain rfl : f = 5 := Option.some.inj ((show Tryz.prog.funcNamed "loop.example/g01172/laws.FnExactParseProgram" = some 5 by kernel_rfl).symm.trans hf) |>.symm
  obtain rfl : fn = Tryz.f5 := (Option.some.inj (Tryz.func5.symm.trans hfn)).symm
  refine ⟨by kernel_rfl, fun j t ht => ?_⟩
  rw [Tryz.params5] at ht
  obtain rfl : t = 9 := by simpa using Array.mem_of_getElem? ht
  exact (show Tryz.prog.wantsStandIn 9 = false by kernel_rfl)
theorem card : Rows.FnExactParseProgramCardSaid :=
  Claim7.holds_tied_plain_at .later [] _ _ _ _ said (fun _ h => by cases h) (by kernel_rfl) (fun _ h => by cases h) fnExactParseProgram_row_tie rfl ⟨rfl, rfl⟩ (by kernel_rfl) rfl plain (by kernel_rfl)
end Go.Proofs.YtlogcnglmdpejaaGreatDoor.Rc
end
