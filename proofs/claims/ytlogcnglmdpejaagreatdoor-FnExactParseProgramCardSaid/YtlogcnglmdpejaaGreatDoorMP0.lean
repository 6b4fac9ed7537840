/- Part 0 of the proof of a card: walks of functions and plain facts on them. -/
import Derived.Test.YtlogcnglmdpejaaGreatDoorCards
import Derived.JoinedCond
import Derived.KernelRfl
import Derived.Below
import Derived.Deep.Draws
import Derived.Deep.AppendLies
import Derived.Maps.AppendAt
import Derived.OwnWalk
import Derived.Laws.BytesArg
import Derived.Laws.MakeOwn
import Derived.Laws.OwnMore
import Derived.Deep.OwnRows
import Derived.Tactics
import Derived.Lib.ConvBytes
import Derived.Laws.Slices
import Derived.WalkKit
import Derived.RowKit3
import Derived.Deep.LoopGhost
import Derived.Deep.QuietTactic
import Derived.BigQuiet
import Derived.WideLaws
import Derived.Deep.DeepCutAuto
import Derived.Deep.CutBlock
import Derived.Deep.RegionHeld3
import Derived.Laws.Rows
import Derived.Lib.AppendStr
import Derived.ArgAppend
import Derived.Laws.IdiomCopy
import Derived.RowKit
import Derived.Test.YtlogcnglmdpejaaGreatDoorProg
import Derived.OrdersHeld
import Derived.Laws.BitsLemmas
import Derived.Test.YtlogcnglmdpejaaGreatDoorMV0
import Derived.Test.YtlogcnglmdpejaaGreatDoorMV1
import Derived.Test.YtlogcnglmdpejaaGreatDoorMV2
import Derived.Test.YtlogcnglmdpejaaGreatDoorMV3
import Derived.Test.YtlogcnglmdpejaaGreatDoorMV4
import Derived.Test.YtlogcnglmdpejaaGreatDoorMV5
import Derived.Test.YtlogcnglmdpejaaGreatDoorMV6
import Derived.Test.YtlogcnglmdpejaaGreatDoorMV7
import Derived.Test.YtlogcnglmdpejaaGreatDoorMV8
import Derived.Test.YtlogcnglmdpejaaGreatDoorMV9
import Derived.Test.YtlogcnglmdpejaaGreatDoorMV10
import Derived.Test.YtlogcnglmdpejaaGreatDoorMV11
import Derived.Test.YtlogcnglmdpejaaGreatDoorMV12
import Derived.Test.YtlogcnglmdpejaaGreatDoorMV13
import Derived.Test.YtlogcnglmdpejaaGreatDoorMV14
import Derived.Test.YtlogcnglmdpejaaGreatDoorMV15
import Derived.Test.YtlogcnglmdpejaaGreatDoorMV16
import Derived.Test.YtlogcnglmdpejaaGreatDoorMV17
import Derived.Test.YtlogcnglmdpejaaGreatDoorMV18
import Derived.Test.YtlogcnglmdpejaaGreatDoorMV19
import Derived.Test.YtlogcnglmdpejaaGreatDoorMV20
import Derived.Test.YtlogcnglmdpejaaGreatDoorMV21
import Derived.Test.YtlogcnglmdpejaaGreatDoorMV22
import Derived.Test.YtlogcnglmdpejaaGreatDoorMV23
section
namespace Go.Proofs.YtlogcnglmdpejaaGreatDoor.Rc
open Go
set_option maxRecDepth 100000
theorem joined : joinedFacts Tryz.pinned.checked.prog 5 Tryz.f5 (OpenSpec.ofChange Rows.fnExactParseProgramSpec).bare Rows.fnExactParseProgramRow = true := by kernel_rfl
end Go.Proofs.YtlogcnglmdpejaaGreatDoor.Rc
end
section
set_option linter.unusedVariables false
set_option linter.unusedSimpArgs false
namespace Go.Proofs.YtlogcnglmdpejaaGreatDoorW.PrintWords
open Go.RowKit
def nums (k : IntKind) (xs : List Int) : List Value := xs.map fun x => .int k x
theorem own_string {P : Program} {w : World} {base n : Nat} {e' src dst e : TypeId} {v : Value} {xs : List Int} (hs : P.underlying src = some (.slice e)) (he : P.underlying e = some (.int .u8)) (hd : P.underlying dst = some .string)
    (h : w.ownsRow base e' 1 v n (nums .u8 xs)) : (convert src dst v).run P w = .ok (.string (strOfNums xs)) w := by
  have hl : xs.length = n := by have := h.1; simp [nums] at this; exact this
  rcases h.2 with ⟨rfl, rfl⟩ | ⟨g, cap, cur, rfl, _⟩
  · obtain rfl : xs = [] := List.eq_nil_of_length_eq_zero hl
    exact run_convert_bytes_nil w src e hs he 0 0 dst hd
  · refine run_convert_bytes_arg w src e hs he g 0 n cap xs hl (fun i hi => ?_) dst hd
    have hc := h.cells (g := g) rfl i (.int .u8 (xs.getD i 0)) (by simp [nums, List.getElem?_eq_getElem (show i < xs.length by omega), List.getD_eq_getElem?_getD])
    have ha : (⟨g, 0, none⟩ : Addr).add i = ⟨g, 0 + i, none⟩ := by unfold Addr.add; split <;> simp_all
    rwa [ha] at hc
theorem KeepBut.of_grown {w w1 : World} {row : Option Nat} (h : w.grownBy w1 row) (g : Nat) : KeepBut w w1 g row := ⟨h.size, fun i hi _ hr => h.block i hi hr⟩
section
variable {α : Type} {R R' : α → List Value → Prop} {e : TypeId} {size : Nat} {w w1 : World} {base : Nat} {v : Value} {ps : List α}
theorem OwnRow.lit (W : World) (base : Nat) {inner : List Value} (hr : Reps R size ps inner) (hb : base ≤ W.heap.size) (hm : ps.length ≤ 9223372036854775807) :
    OwnRow R e size (W.alloc (.cells inner.toArray e)) base (.slice (some ⟨W.heap.size, 0, none⟩) ps.length ps.length) ps := by
  have h := World.ownsRow_lit (base := base) (e := e) (size := size) W inner.toArray ps.length hb (by simpa [maxLen] using hm) (by simpa using hr.1)
  exact ⟨inner, by simpa using h, hr⟩
end
namespace Kd
end Kd
namespace Kd
end Kd
namespace Kd
end Kd
namespace Kd
end Kd
namespace Kd
end Kd
namespace Kd
end Kd
namespace Kd
end Kd
namespace Kd
end Kd
namespace Kd
end Kd
namespace Kd
end Kd
namespace Kd
end Kd
namespace Kd
end Kd
namespace Kd
end Kd
namespace Kd
end Kd
namespace Kd
end Kd
namespace Kd
variable {α : Type}
end Kd
namespace Kd
end Kd
end Go.Proofs.YtlogcnglmdpejaaGreatDoorW.PrintWords
end
section
namespace Go.Proofs.YtlogcnglmdpejaaGreatDoorW.PrintWords
open Go.RowKit
namespace Kd
def bare {α : Type} (d : Kd α) : Kd α where
  sz := d.sz
  E := d.E
  K := d.K
  M := fun w base _ x cs => d.M w base (fun _ => False) x cs
  K_len := fun h => d.K_len h
  K_one := fun h => d.K_one h
  K_below := fun hb h => d.K_below hb h
  K_of_M := fun h => d.K_of_M h
  M_mono := fun _ h => h
  M_bound := fun h => h
  M_move := fun _ h => d.M_move (fun _ hk => hk.elim) h
  M_lower := fun hb h => d.M_lower hb h
end Kd
end Go.Proofs.YtlogcnglmdpejaaGreatDoorW.PrintWords
end
section
namespace Go.Proofs.YtlogcnglmdpejaaGreatDoorW.PrintWords
open Go.RowKit
section
variable {w W W2 : World} {S S2 S' : Nat → Prop}
theorem Kept.of_grown {row : Option Nat} (hg : W.grownBy W2 row) (h : Kept w W S) (hr : ∀ k, row = some k → S k ∨ w.heap.size ≤ k) : Kept w W2 S :=
  h.then_ (S2 := fun k => row = some k) ⟨hg.size, fun i hi hn => hg.block i hi (fun he => hn he.symm)⟩ hr
end
namespace Kd
end Kd
end Go.Proofs.YtlogcnglmdpejaaGreatDoorW.PrintWords
end
section
namespace Go.Proofs.YtlogcnglmdpejaaGreatDoor.Pq
open Go.RowKit Go.Proofs.YtlogcnglmdpejaaGreatDoorW.PrintWords Go.Proofs.YtlogcnglmdpejaaGreatDoorW.PrintLast Go.Proofs.YtlogcnglmdpejaaGreatDoorW.PrintMore
attribute [local go_sem] max2_int min2_int max_two min_two max_three min_three max_four min_four
set_option linter.unusedVariables false
set_option linter.unusedSimpArgs false
def z138 : S138 := ⟨(⟨#[]⟩ : ByteArray), (⟨#[]⟩ : ByteArray)⟩
end Go.Proofs.YtlogcnglmdpejaaGreatDoor.Pq
end
section
namespace Go.Proofs.YtlogcnglmdpejaaGreatDoor.Hd
open Go.RowKit Go.Proofs.YtlogcnglmdpejaaGreatDoorW.PrintWords Go.Proofs.YtlogcnglmdpejaaGreatDoorW.PrintLast Go.Proofs.YtlogcnglmdpejaaGreatDoorW.PrintMore Go.Proofs.YtlogcnglmdpejaaGreatDoor.Pq
attribute [local go_sem] max2_int min2_int max_two min_two max_three min_three max_four min_four
set_option linter.unusedVariables false
set_option linter.unusedSimpArgs false
def wordN (s : ByteArray) : Int :=
  if s.toList = [120] ∨ s.toList = [121] ∨ s.toList = [122] then 0
  else if s.toList = [110, 101, 103] ∨ s.toList = [115, 113, 114] ∨ s.toList = [97, 98, 115] ∨ s.toList = [114, 111, 111, 116] ∨ s.toList = [101, 120, 112] ∨ s.toList = [108, 111, 103] ∨ s.toList = [97, 116, 97, 110] ∨ s.toList = [115, 105, 110] then 1
  else if s.toList = [43] ∨ s.toList = [45] ∨ s.toList = [42] ∨ s.toList = [47] ∨ s.toList = [109, 105, 110] ∨ s.toList = [109, 97, 120] then 2
  else if pfOk s = true then 0 else -1
theorem wordN_range (s : ByteArray) : -1 ≤ wordN s ∧ wordN s ≤ 2 := by
  unfold wordN
  split
  · omega
  · split
    · omega
    · split
      · omega
      · split <;> omega
set_option maxHeartbeats 4000000 in
set_option maxRecDepth 100000 in
theorem form_calls {w : World} {s : ByteArray} (hs : s.size ≤ 1100000) : Calls Tryz.prog 126 #[.string s] w fun e w' => e = .returned (.int .i64 (wordN s)) ∧ Below w.heap.size w w' := by
  have HS := As_.mk (show s.size ≤ 2000000 by omega)
  clear hs
  rcases hb0 : (s.toList == [120]) with _ | _
  rotate_left
  · have hq : s.toList = [120] := by simpa using hb0
    have hn : wordN s = 0 := by unfold wordN; simp [hq]
    have HN := As_.mk hn
    clear hq hn
    go_enter Tryz.func126, Tryz.ntmps126
    go_wp2_with fail
    go_ret
    exact ⟨by rw [HN.out]; rfl, Below.refl _ _⟩
  have P0 : As_ (¬ s.toList = [120]) := ⟨by simpa using hb0⟩
  rcases hb1 : (s.toList == [121]) with _ | _
  rotate_left
  · have hq : s.toList = [121] := by simpa using hb1
    have hn : wordN s = 0 := by unfold wordN; simp [P0.out, hq]
    have HN := As_.mk hn
    clear hq hn
    go_enter Tryz.func126, Tryz.ntmps126
    go_wp2_with fail
    go_ret
    exact ⟨by rw [HN.out]; rfl, Below.refl _ _⟩
  have P1 : As_ (¬ s.toList = [121]) := ⟨by simpa using hb1⟩
  rcases hb2 : (s.toList == [122]) with _ | _
  rotate_left
  · have hq : s.toList = [122] := by simpa using hb2
    have hn : wordN s = 0 := by unfold wordN; simp [P0.out, P1.out, hq]
    have HN := As_.mk hn
    clear hq hn
    go_enter Tryz.func126, Tryz.ntmps126
    go_wp2_with fail
    go_ret
    exact ⟨by rw [HN.out]; rfl, Below.refl _ _⟩
  have P2 : As_ (¬ s.toList = [122]) := ⟨by simpa using hb2⟩
  rcases hb3 : (s.toList == [110, 101, 103]) with _ | _
  rotate_left
  · have hq : s.toList = [110, 101, 103] := by simpa using hb3
    have hn : wordN s = 1 := by unfold wordN; simp [P0.out, P1.out, P2.out, hq]
    have HN := As_.mk hn
    clear hq hn
    go_enter Tryz.func126, Tryz.ntmps126
    go_wp2_with fail
    go_ret
    exact ⟨by rw [HN.out]; rfl, Below.refl _ _⟩
  have P3 : As_ (¬ s.toList = [110, 101, 103]) := ⟨by simpa using hb3⟩
  rcases hb4 : (s.toList == [115, 113, 114]) with _ | _
  rotate_left
  · have hq : s.toList = [115, 113, 114] := by simpa using hb4
    have hn : wordN s = 1 := by unfold wordN; simp [P0.out, P1.out, P2.out, P3.out, hq]
    have HN := As_.mk hn
    clear hq hn
    go_enter Tryz.func126, Tryz.ntmps126
    go_wp2_with fail
    go_ret
    exact ⟨by rw [HN.out]; rfl, Below.refl _ _⟩
  have P4 : As_ (¬ s.toList = [115, 113, 114]) := ⟨by simpa using hb4⟩
  rcases hb5 : (s.toList == [97, 98, 115]) with _ | _
  rotate_left
  · have hq : s.toList = [97, 98, 115] := by simpa using hb5
    have hn : wordN s = 1 := by unfold wordN; simp [P0.out, P1.out, P2.out, P3.out, P4.out, hq]
    have HN := As_.mk hn
    clear hq hn
    go_enter Tryz.func126, Tryz.ntmps126
    go_wp2_with fail
    go_ret
    exact ⟨by rw [HN.out]; rfl, Below.refl _ _⟩
  have P5 : As_ (¬ s.toList = [97, 98, 115]) := ⟨by simpa using hb5⟩
  rcases hb6 : (s.toList == [114, 111, 111, 116]) with _ | _
  rotate_left
  · have hq : s.toList = [114, 111, 111, 116] := by simpa using hb6
    have hn : wordN s = 1 := by unfold wordN; simp [P0.out, P1.out, P2.out, P3.out, P4.out, P5.out, hq]
    have HN := As_.mk hn
    clear hq hn
    go_enter Tryz.func126, Tryz.ntmps126
    go_wp2_with fail
    go_ret
    exact ⟨by rw [HN.out]; rfl, Below.refl _ _⟩
  have P6 : As_ (¬ s.toList = [114, 111, 111, 116]) := ⟨by simpa using hb6⟩
  rcases hb7 : (s.toList == [101, 120, 112]) with _ | _
  rotate_left
  · have hq : s.toList = [101, 120, 112] := by simpa using hb7
    have hn : wordN s = 1 := by unfold wordN; simp [P0.out, P1.out, P2.out, P3.out, P4.out, P5.out, P6.out, hq]
    have HN := As_.mk hn
    clear hq hn
    go_enter Tryz.func126, Tryz.ntmps126
    go_wp2_with fail
    go_ret
    exact ⟨by rw [HN.out]; rfl, Below.refl _ _⟩
  have P7 : As_ (¬ s.toList = [101, 120, 112]) := ⟨by simpa using hb7⟩
  rcases hb8 : (s.toList == [108, 111, 103]) with _ | _
  rotate_left
  · have hq : s.toList = [108, 111, 103] := by simpa using hb8
    have hn : wordN s = 1 := by unfold wordN; simp [P0.out, P1.out, P2.out, P3.out, P4.out, P5.out, P6.out, P7.out, hq]
    have HN := As_.mk hn
    clear hq hn
    go_enter Tryz.func126, Tryz.ntmps126
    go_wp2_with fail
    go_ret
    exact ⟨by rw [HN.out]; rfl, Below.refl _ _⟩
  have P8 : As_ (¬ s.toList = [108, 111, 103]) := ⟨by simpa using hb8⟩
  rcases hb9 : (s.toList == [97, 116, 97, 110]) with _ | _
  rotate_left
  · have hq : s.toList = [97, 116, 97, 110] := by simpa using hb9
    have hn : wordN s = 1 := by unfold wordN; simp [P0.out, P1.out, P2.out, P3.out, P4.out, P5.out, P6.out, P7.out, P8.out, hq]
    have HN := As_.mk hn
    clear hq hn
    go_enter Tryz.func126, Tryz.ntmps126
    go_wp2_with fail
    go_ret
    exact ⟨by rw [HN.out]; rfl, Below.refl _ _⟩
  have P9 : As_ (¬ s.toList = [97, 116, 97, 110]) := ⟨by simpa using hb9⟩
  rcases hb10 : (s.toList == [115, 105, 110]) with _ | _
  rotate_left
  · have hq : s.toList = [115, 105, 110] := by simpa using hb10
    have hn : wordN s = 1 := by unfold wordN; simp [P0.out, P1.out, P2.out, P3.out, P4.out, P5.out, P6.out, P7.out, P8.out, P9.out, hq]
    have HN := As_.mk hn
    clear hq hn
    go_enter Tryz.func126, Tryz.ntmps126
    go_wp2_with fail
    go_ret
    exact ⟨by rw [HN.out]; rfl, Below.refl _ _⟩
  have P10 : As_ (¬ s.toList = [115, 105, 110]) := ⟨by simpa using hb10⟩
  rcases hb11 : (s.toList == [43]) with _ | _
  rotate_left
  · have hq : s.toList = [43] := by simpa using hb11
    have hn : wordN s = 2 := by unfold wordN; simp [P0.out, P1.out, P2.out, P3.out, P4.out, P5.out, P6.out, P7.out, P8.out, P9.out, P10.out, hq]
    have HN := As_.mk hn
    clear hq hn
    go_enter Tryz.func126, Tryz.ntmps126
    go_wp2_with fail
    go_ret
    exact ⟨by rw [HN.out]; rfl, Below.refl _ _⟩
  have P11 : As_ (¬ s.toList = [43]) := ⟨by simpa using hb11⟩
  rcases hb12 : (s.toList == [45]) with _ | _
  rotate_left
  · have hq : s.toList = [45] := by simpa using hb12
    have hn : wordN s = 2 := by unfold wordN; simp [P0.out, P1.out, P2.out, P3.out, P4.out, P5.out, P6.out, P7.out, P8.out, P9.out, P10.out, P11.out, hq]
    have HN := As_.mk hn
    clear hq hn
    go_enter Tryz.func126, Tryz.ntmps126
    go_wp2_with fail
    go_ret
    exact ⟨by rw [HN.out]; rfl, Below.refl _ _⟩
  have P12 : As_ (¬ s.toList = [45]) := ⟨by simpa using hb12⟩
  rcases hb13 : (s.toList == [42]) with _ | _
  rotate_left
  · have hq : s.toList = [42] := by simpa using hb13
    have hn : wordN s = 2 := by unfold wordN; simp [P0.out, P1.out, P2.out, P3.out, P4.out, P5.out, P6.out, P7.out, P8.out, P9.out, P10.out, P11.out, P12.out, hq]
    have HN := As_.mk hn
    clear hq hn
    go_enter Tryz.func126, Tryz.ntmps126
    go_wp2_with fail
    go_ret
    exact ⟨by rw [HN.out]; rfl, Below.refl _ _⟩
  have P13 : As_ (¬ s.toList = [42]) := ⟨by simpa using hb13⟩
  rcases hb14 : (s.toList == [47]) with _ | _
  rotate_left
  · have hq : s.toList = [47] := by simpa using hb14
    have hn : wordN s = 2 := by unfold wordN; simp [P0.out, P1.out, P2.out, P3.out, P4.out, P5.out, P6.out, P7.out, P8.out, P9.out, P10.out, P11.out, P12.out, P13.out, hq]
    have HN := As_.mk hn
    clear hq hn
    go_enter Tryz.func126, Tryz.ntmps126
    go_wp2_with fail
    go_ret
    exact ⟨by rw [HN.out]; rfl, Below.refl _ _⟩
  have P14 : As_ (¬ s.toList = [47]) := ⟨by simpa using hb14⟩
  rcases hb15 : (s.toList == [109, 105, 110]) with _ | _
  rotate_left
  · have hq : s.toList = [109, 105, 110] := by simpa using hb15
    have hn : wordN s = 2 := by unfold wordN; simp [P0.out, P1.out, P2.out, P3.out, P4.out, P5.out, P6.out, P7.out, P8.out, P9.out, P10.out, P11.out, P12.out, P13.out, P14.out, hq]
    have HN := As_.mk hn
    clear hq hn
    go_enter Tryz.func126, Tryz.ntmps126
    go_wp2_with fail
    go_ret
    exact ⟨by rw [HN.out]; rfl, Below.refl _ _⟩
  have P15 : As_ (¬ s.toList = [109, 105, 110]) := ⟨by simpa using hb15⟩
  rcases hb16 : (s.toList == [109, 97, 120]) with _ | _
  rotate_left
  · have hq : s.toList = [109, 97, 120] := by simpa using hb16
    have hn : wordN s = 2 := by unfold wordN; simp [P0.out, P1.out, P2.out, P3.out, P4.out, P5.out, P6.out, P7.out, P8.out, P9.out, P10.out, P11.out, P12.out, P13.out, P14.out, P15.out, hq]
    have HN := As_.mk hn
    clear hq hn
    go_enter Tryz.func126, Tryz.ntmps126
    go_wp2_with fail
    go_ret
    exact ⟨by rw [HN.out]; rfl, Below.refl _ _⟩
  have P16 : As_ (¬ s.toList = [109, 97, 120]) := ⟨by simpa using hb16⟩
  obtain ⟨b, hb⟩ : ∃ b, pfOk s = b := ⟨_, rfl⟩
  have hn : wordN s = if b = true then 0 else -1 := by unfold wordN; simp [P0.out, P1.out, P2.out, P3.out, P4.out, P5.out, P6.out, P7.out, P8.out, P9.out, P10.out, P11.out, P12.out, P13.out, P14.out, P15.out, P16.out, hb]
  have HN := As_.mk hn
  have HB := As_.mk hb
  clear hn hb
  go_enter Tryz.func126, Tryz.ntmps126
  go_wp2_with fail
  refine (parseFloat_calls HS.out).mono ?_
  rintro e w1 ⟨x, rfl, _, hb⟩
  rw [HB.out]
  have HBB := As_.mk hb
  clear hb
  cases b
  · go_wp2_with fail
    go_ret
    exact ⟨by rw [HN.out]; rfl, HBB.out⟩
  · go_wp2_with fail
    go_ret
    exact ⟨by rw [HN.out]; rfl, HBB.out⟩
set_option maxHeartbeats 4000000 in
set_option maxRecDepth 100000 in
theorem Needs_calls {w : World} {s : ByteArray} (hs : s.size ≤ 1100000) : Calls Tryz.prog 85 #[.string s] w fun e w' => e = .returned (.int .i64 (wordN s)) ∧ Below w.heap.size w w' := by
  have HS := As_.mk (show s.size ≤ 1100000 by omega)
  clear hs
  rcases hb0 : (s.toList == [120]) with _ | _
  rotate_left
  · have hq : s.toList = [120] := by simpa using hb0
    have hn : wordN s = 0 := by unfold wordN; simp [hq]
    have HN := As_.mk hn
    clear hq hn
    go_enter Tryz.func85, Tryz.ntmps85
    go_wp2_with fail
    go_ret
    exact ⟨by rw [HN.out]; rfl, Below.refl _ _⟩
  have P0 : As_ (¬ s.toList = [120]) := ⟨by simpa using hb0⟩
  rcases hb1 : (s.toList == [121]) with _ | _
  rotate_left
  · have hq : s.toList = [121] := by simpa using hb1
    have hn : wordN s = 0 := by unfold wordN; simp [P0.out, hq]
    have HN := As_.mk hn
    clear hq hn
    go_enter Tryz.func85, Tryz.ntmps85
    go_wp2_with fail
    go_ret
    exact ⟨by rw [HN.out]; rfl, Below.refl _ _⟩
  have P1 : As_ (¬ s.toList = [121]) := ⟨by simpa using hb1⟩
  rcases hb2 : (s.toList == [122]) with _ | _
  rotate_left
  · have hq : s.toList = [122] := by simpa using hb2
    have hn : wordN s = 0 := by unfold wordN; simp [P0.out, P1.out, hq]
    have HN := As_.mk hn
    clear hq hn
    go_enter Tryz.func85, Tryz.ntmps85
    go_wp2_with fail
    go_ret
    exact ⟨by rw [HN.out]; rfl, Below.refl _ _⟩
  have P2 : As_ (¬ s.toList = [122]) := ⟨by simpa using hb2⟩
  rcases hb3 : (s.toList == [110, 101, 103]) with _ | _
  rotate_left
  · have hq : s.toList = [110, 101, 103] := by simpa using hb3
    have hn : wordN s = 1 := by unfold wordN; simp [P0.out, P1.out, P2.out, hq]
    have HN := As_.mk hn
    clear hq hn
    go_enter Tryz.func85, Tryz.ntmps85
    go_wp2_with fail
    go_ret
    exact ⟨by rw [HN.out]; rfl, Below.refl _ _⟩
  have P3 : As_ (¬ s.toList = [110, 101, 103]) := ⟨by simpa using hb3⟩
  rcases hb4 : (s.toList == [115, 113, 114]) with _ | _
  rotate_left
  · have hq : s.toList = [115, 113, 114] := by simpa using hb4
    have hn : wordN s = 1 := by unfold wordN; simp [P0.out, P1.out, P2.out, P3.out, hq]
    have HN := As_.mk hn
    clear hq hn
    go_enter Tryz.func85, Tryz.ntmps85
    go_wp2_with fail
    go_ret
    exact ⟨by rw [HN.out]; rfl, Below.refl _ _⟩
  have P4 : As_ (¬ s.toList = [115, 113, 114]) := ⟨by simpa using hb4⟩
  rcases hb5 : (s.toList == [97, 98, 115]) with _ | _
  rotate_left
  · have hq : s.toList = [97, 98, 115] := by simpa using hb5
    have hn : wordN s = 1 := by unfold wordN; simp [P0.out, P1.out, P2.out, P3.out, P4.out, hq]
    have HN := As_.mk hn
    clear hq hn
    go_enter Tryz.func85, Tryz.ntmps85
    go_wp2_with fail
    go_ret
    exact ⟨by rw [HN.out]; rfl, Below.refl _ _⟩
  have P5 : As_ (¬ s.toList = [97, 98, 115]) := ⟨by simpa using hb5⟩
  rcases hb6 : (s.toList == [114, 111, 111, 116]) with _ | _
  rotate_left
  · have hq : s.toList = [114, 111, 111, 116] := by simpa using hb6
    have hn : wordN s = 1 := by unfold wordN; simp [P0.out, P1.out, P2.out, P3.out, P4.out, P5.out, hq]
    have HN := As_.mk hn
    clear hq hn
    go_enter Tryz.func85, Tryz.ntmps85
    go_wp2_with fail
    go_ret
    exact ⟨by rw [HN.out]; rfl, Below.refl _ _⟩
  have P6 : As_ (¬ s.toList = [114, 111, 111, 116]) := ⟨by simpa using hb6⟩
  rcases hb7 : (s.toList == [101, 120, 112]) with _ | _
  rotate_left
  · have hq : s.toList = [101, 120, 112] := by simpa using hb7
    have hn : wordN s = 1 := by unfold wordN; simp [P0.out, P1.out, P2.out, P3.out, P4.out, P5.out, P6.out, hq]
    have HN := As_.mk hn
    clear hq hn
    go_enter Tryz.func85, Tryz.ntmps85
    go_wp2_with fail
    go_ret
    exact ⟨by rw [HN.out]; rfl, Below.refl _ _⟩
  have P7 : As_ (¬ s.toList = [101, 120, 112]) := ⟨by simpa using hb7⟩
  rcases hb8 : (s.toList == [108, 111, 103]) with _ | _
  rotate_left
  · have hq : s.toList = [108, 111, 103] := by simpa using hb8
    have hn : wordN s = 1 := by unfold wordN; simp [P0.out, P1.out, P2.out, P3.out, P4.out, P5.out, P6.out, P7.out, hq]
    have HN := As_.mk hn
    clear hq hn
    go_enter Tryz.func85, Tryz.ntmps85
    go_wp2_with fail
    go_ret
    exact ⟨by rw [HN.out]; rfl, Below.refl _ _⟩
  have P8 : As_ (¬ s.toList = [108, 111, 103]) := ⟨by simpa using hb8⟩
  rcases hb9 : (s.toList == [97, 116, 97, 110]) with _ | _
  rotate_left
  · have hq : s.toList = [97, 116, 97, 110] := by simpa using hb9
    have hn : wordN s = 1 := by unfold wordN; simp [P0.out, P1.out, P2.out, P3.out, P4.out, P5.out, P6.out, P7.out, P8.out, hq]
    have HN := As_.mk hn
    clear hq hn
    go_enter Tryz.func85, Tryz.ntmps85
    go_wp2_with fail
    go_ret
    exact ⟨by rw [HN.out]; rfl, Below.refl _ _⟩
  have P9 : As_ (¬ s.toList = [97, 116, 97, 110]) := ⟨by simpa using hb9⟩
  rcases hb10 : (s.toList == [115, 105, 110]) with _ | _
  rotate_left
  · have hq : s.toList = [115, 105, 110] := by simpa using hb10
    have hn : wordN s = 1 := by unfold wordN; simp [P0.out, P1.out, P2.out, P3.out, P4.out, P5.out, P6.out, P7.out, P8.out, P9.out, hq]
    have HN := As_.mk hn
    clear hq hn
    go_enter Tryz.func85, Tryz.ntmps85
    go_wp2_with fail
    go_ret
    exact ⟨by rw [HN.out]; rfl, Below.refl _ _⟩
  have P10 : As_ (¬ s.toList = [115, 105, 110]) := ⟨by simpa using hb10⟩
  rcases hb11 : (s.toList == [43]) with _ | _
  rotate_left
  · have hq : s.toList = [43] := by simpa using hb11
    have hn : wordN s = 2 := by unfold wordN; simp [P0.out, P1.out, P2.out, P3.out, P4.out, P5.out, P6.out, P7.out, P8.out, P9.out, P10.out, hq]
    have HN := As_.mk hn
    clear hq hn
    go_enter Tryz.func85, Tryz.ntmps85
    go_wp2_with fail
    go_ret
    exact ⟨by rw [HN.out]; rfl, Below.refl _ _⟩
  have P11 : As_ (¬ s.toList = [43]) := ⟨by simpa using hb11⟩
  rcases hb12 : (s.toList == [45]) with _ | _
  rotate_left
  · have hq : s.toList = [45] := by simpa using hb12
    have hn : wordN s = 2 := by unfold wordN; simp [P0.out, P1.out, P2.out, P3.out, P4.out, P5.out, P6.out, P7.out, P8.out, P9.out, P10.out, P11.out, hq]
    have HN := As_.mk hn
    clear hq hn
    go_enter Tryz.func85, Tryz.ntmps85
    go_wp2_with fail
    go_ret
    exact ⟨by rw [HN.out]; rfl, Below.refl _ _⟩
  have P12 : As_ (¬ s.toList = [45]) := ⟨by simpa using hb12⟩
  rcases hb13 : (s.toList == [42]) with _ | _
  rotate_left
  · have hq : s.toList = [42] := by simpa using hb13
    have hn : wordN s = 2 := by unfold wordN; simp [P0.out, P1.out, P2.out, P3.out, P4.out, P5.out, P6.out, P7.out, P8.out, P9.out, P10.out, P11.out, P12.out, hq]
    have HN := As_.mk hn
    clear hq hn
    go_enter Tryz.func85, Tryz.ntmps85
    go_wp2_with fail
    go_ret
    exact ⟨by rw [HN.out]; rfl, Below.refl _ _⟩
  have P13 : As_ (¬ s.toList = [42]) := ⟨by simpa using hb13⟩
  rcases hb14 : (s.toList == [47]) with _ | _
  rotate_left
  · have hq : s.toList = [47] := by simpa using hb14
    have hn : wordN s = 2 := by unfold wordN; simp [P0.out, P1.out, P2.out, P3.out, P4.out, P5.out, P6.out, P7.out, P8.out, P9.out, P10.out, P11.out, P12.out, P13.out, hq]
    have HN := As_.mk hn
    clear hq hn
    go_enter Tryz.func85, Tryz.ntmps85
    go_wp2_with fail
    go_ret
    exact ⟨by rw [HN.out]; rfl, Below.refl _ _⟩
  have P14 : As_ (¬ s.toList = [47]) := ⟨by simpa using hb14⟩
  rcases hb15 : (s.toList == [109, 105, 110]) with _ | _
  rotate_left
  · have hq : s.toList = [109, 105, 110] := by simpa using hb15
    have hn : wordN s = 2 := by unfold wordN; simp [P0.out, P1.out, P2.out, P3.out, P4.out, P5.out, P6.out, P7.out, P8.out, P9.out, P10.out, P11.out, P12.out, P13.out, P14.out, hq]
    have HN := As_.mk hn
    clear hq hn
    go_enter Tryz.func85, Tryz.ntmps85
    go_wp2_with fail
    go_ret
    exact ⟨by rw [HN.out]; rfl, Below.refl _ _⟩
  have P15 : As_ (¬ s.toList = [109, 105, 110]) := ⟨by simpa using hb15⟩
  rcases hb16 : (s.toList == [109, 97, 120]) with _ | _
  rotate_left
  · have hq : s.toList = [109, 97, 120] := by simpa using hb16
    have hn : wordN s = 2 := by unfold wordN; simp [P0.out, P1.out, P2.out, P3.out, P4.out, P5.out, P6.out, P7.out, P8.out, P9.out, P10.out, P11.out, P12.out, P13.out, P14.out, P15.out, hq]
    have HN := As_.mk hn
    clear hq hn
    go_enter Tryz.func85, Tryz.ntmps85
    go_wp2_with fail
    go_ret
    exact ⟨by rw [HN.out]; rfl, Below.refl _ _⟩
  have P16 : As_ (¬ s.toList = [109, 97, 120]) := ⟨by simpa using hb16⟩
  obtain ⟨b, hb⟩ : ∃ b, pfOk s = b := ⟨_, rfl⟩
  have hn : wordN s = if b = true then 0 else -1 := by unfold wordN; simp [P0.out, P1.out, P2.out, P3.out, P4.out, P5.out, P6.out, P7.out, P8.out, P9.out, P10.out, P11.out, P12.out, P13.out, P14.out, P15.out, P16.out, hb]
  have HN := As_.mk hn
  have HB := As_.mk hb
  clear hn hb
  go_enter Tryz.func85, Tryz.ntmps85
  go_wp2_with fail
  refine (l06Float_calls HS.out).mono ?_
  rintro e w1 ⟨x, rfl, _, hb⟩
  rw [HB.out]
  have HBB := As_.mk hb
  clear hb
  cases b
  · go_wp2_with fail
    go_ret
    exact ⟨by rw [HN.out]; rfl, HBB.out⟩
  · go_wp2_with fail
    go_ret
    exact ⟨by rw [HN.out]; rfl, HBB.out⟩
def depL : List ByteArray → Int → Int → Option (Int × Int)
  | [], h, m => some (h, m)
  | x :: r, h, m => if wordN x < 0 ∨ h < wordN x then none else depL r (h + 1 - wordN x) (max m (h + 1 - wordN x))
def isP (ws : List ByteArray) : Bool := if ws.length < 1 ∨ 60 < ws.length then false else match depL ws 0 0 with | none => false | some (h, m) => decide (h = 1 ∧ m ≤ 16)
def depV (ws : List ByteArray) : Int := match depL ws 0 0 with | none => 0 | some (_, m) => m
theorem depL_bound : ∀ (ws : List ByteArray) (h m h' m' : Int), depL ws h m = some (h', m') → 0 ≤ h → h' ≤ h + ws.length ∧ m ≤ m' ∧ (m' ≤ max m (h + ws.length)) ∧ 0 ≤ h' ∧ (ws ≠ [] → h' ≤ m')
  | [], h, m, h', m', e, h0 => by
    unfold depL at e
    injection e with e
    injection e with e1 e2
    subst e1 e2
    simp
    omega
  | x :: r, h, m, h', m', e, h0 => by
    have hw := wordN_range x
    unfold depL at e
    split at e
    · cases e
    · rename_i hc
      have ih := depL_bound r _ _ _ _ e (by omega)
      have hl : ((x :: r).length : Int) = (r.length : Int) + 1 := by simp
      obtain ⟨a, b, c, d, f⟩ := ih
      refine ⟨by omega, by omega, by omega, d, fun _ => ?_⟩
      by_cases hr : r = []
      · subst hr
        unfold depL at e
        injection e with e
        injection e with e1 e2
        omega
      · exact f hr
theorem depL_drop {ws : List ByteArray} {i : Nat} (hi : i < ws.length) (h m : Int) : depL (ws.drop i) h m = if wordN (rdOf ByteArray.empty ws (i : Int)) < 0 ∨ h < wordN (rdOf ByteArray.empty ws (i : Int)) then none else depL (ws.drop (i + 1)) (h + 1 - wordN (rdOf ByteArray.empty ws (i : Int))) (max m (h + 1 - wordN (rdOf ByteArray.empty ws (i : Int)))) := by
  have e : rdOf ByteArray.empty ws (i : Int) = ws[i]'hi := by
    unfold rdOf
    rw [Int.toNat_natCast, List.getD_eq_getElem?_getD, List.getElem?_eq_getElem hi]
    rfl
  rw [List.drop_eq_getElem_cons hi, e]
  rfl
def DpPost (ws : List ByteArray) (w : World) (e : Ending) (w' : World) : Prop := ∃ d, e = .returned (.tuple #[.int .i64 d, .bool (isP ws)]) ∧ (isP ws = true → d = depV ws) ∧ Below w.heap.size w w'
theorem isP_out {ws : List ByteArray} (h : ws.length < 1 ∨ 60 < ws.length) : isP ws = false := if_pos h
theorem isP_none {ws : List ByteArray} (h : depL ws 0 0 = none) : isP ws = false := by
  unfold isP
  rw [h]
  split <;> rfl
theorem isP_some {ws : List ByteArray} {a b : Int} (h1 : ¬ (ws.length < 1 ∨ 60 < ws.length)) (h : depL ws 0 0 = some (a, b)) : isP ws = decide (a = 1 ∧ b ≤ 16) ∧ depV ws = b := by
  unfold isP depV
  rw [if_neg h1, h]
  exact ⟨rfl, rfl⟩
theorem dp_no {ws : List ByteArray} {w w' : World} (h : isP ws = false) (hb : Below w.heap.size w w') (d : Int) : DpPost ws w (.returned (.tuple #[.int .i64 d, .bool false])) w' :=
  by
  refine ⟨d, by rw [h], ?_, hb⟩
  intro h2
  rw [h] at h2
  cases h2
set_option maxHeartbeats 2000000 in
theorem depthOf_calls {w : World} {A : Option Addr} {c : Nat} {ws : List ByteArray} (hc : Kd.C Kd.string w A ws.length ws) (hl : ws.length ≤ c) (hs : ∀ i : Nat, i < ws.length → (rdOf ByteArray.empty ws (i : Int)).size ≤ 1100000) :
    Calls Tryz.prog 95 #[.slice A ws.length c] w (DpPost ws w) := by
  have HC := As_.mk hc
  have HS := As_.mk hs
  clear hc hs hl
  by_cases h0 : ws.length < 1
  · have hd : decide ((ws.length : Int) < 1) = true := decide_eq_true (by omega)
    have HO := As_.mk (isP_out (ws := ws) (.inl h0))
    clear h0
    go_enter Tryz.func95, Tryz.ntmps95
    go_wp2_with fail
    go_ret2
    exact dp_no HO.out (Below.refl _ _) _
  · by_cases h60 : 60 < ws.length
    · have hd : decide ((ws.length : Int) < 1) = false := decide_eq_false (by omega)
      have hd2 : decide ((60 : Int) < (ws.length : Int)) = true := decide_eq_true (by omega)
      have HO := As_.mk (isP_out (ws := ws) (.inr h60))
      clear h60 h0
      go_enter Tryz.func95, Tryz.ntmps95
      go_wp2_with fail
      go_ret2
      exact dp_no HO.out (Below.refl _ _) _
    · have hd : decide ((ws.length : Int) < 1) = false := decide_eq_false (by omega)
      have hd2 : decide ((60 : Int) < (ws.length : Int)) = false := decide_eq_false (by omega)
      have HLN : As_ (0 < ws.length ∧ ws.length ≤ 60) := ⟨by omega⟩
      have hli : (ws.length : Int) ≤ 60 := by omega
      clear h60 h0
      go_enter Tryz.func95, Tryz.ntmps95
      go_wp2_with fail
      clear hd hd2
      go_loopg [4, 5, 19] (ws.length + 1) (fun kq s4 s5 s19 w' => ∃ (i : Nat) (h m : Int), s19 = .int .i64 i ∧ s4 = .int .i64 h ∧ s5 = .int .i64 m ∧ As_ (i ≤ ws.length ∧ 0 ≤ h ∧ h ≤ i ∧ 0 ≤ m ∧ m ≤ i ∧ ws.length < kq + i) ∧ As_ (depL ws 0 0 = depL (ws.drop i) h m) ∧ As_ (Below w.heap.size w w'))
      case atStart => exact ⟨0, 0, 0, rfl, rfl, rfl, ⟨by omega⟩, ⟨rfl⟩, ⟨Below.refl _ _⟩⟩
      case round =>
        obtain ⟨i, u, m, rfl, rfl, rfl, HI, HD, HB⟩ := hrel
        by_cases hi : i < ws.length
        · have hi2 : (i : Int) < (ws.length : Int) := by omega
          have hi3 : (0 : Int) ≤ (i : Int) := by omega
          obtain ⟨ad, rfl, hx⟩ := Kd.at_string (Kd.C_below HC.out HB.out) (i : Int) hi3 hi2
          rw [Int.toNat_natCast] at hx
          have HSI := As_.mk (HS.out i hi)
          have HDI := As_.mk (depL_drop hi u m)
          generalize rdOf ByteArray.empty ws (i : Int) = x at hx HSI HDI
          obtain ⟨n, hn⟩ : ∃ n, wordN x = n := ⟨_, rfl⟩
          have hnr := wordN_range x
          rw [hn] at hnr HDI
          have HN := As_.mk hn
          obtain ⟨hn1, hn2⟩ := hnr
          obtain ⟨HI1, HI2, HI3, HI4, HI5, HI6⟩ := HI.out
          have hhi : u ≤ 60 := by omega
          have hmi : m ≤ 60 := by omega
          have HIL := As_.mk hi
          clear hn hi HI1 HI3 HI5 HI6
          go_wp2_with fail
          refine (form_calls HSI.out).mono ?_
          rintro e w1 ⟨rfl, hb⟩
          rw [HN.out]
          have HB1 := As_.mk (HB.out.trans (hb.mono HB.out.size))
          clear hb
          by_cases hneg : n < 0
          · have hnd : decide (n < 0) = true := decide_eq_true hneg
            have HNO : As_ (isP ws = false) := ⟨isP_none (by rw [HD.out, HDI.out, if_pos (.inl hneg)])⟩
            go_wp2_with fail
            go_ret2
            exact dp_no HNO.out HB1.out _
          · by_cases hlt : u < n
            · have hnd : decide (n < 0) = false := decide_eq_false hneg
              have hld : decide (u < n) = true := decide_eq_true hlt
              have HNO : As_ (isP ws = false) := ⟨isP_none (by rw [HD.out, HDI.out, if_pos (.inr hlt)])⟩
              go_wp2_with fail
              go_ret2
              exact dp_no HNO.out HB1.out _
            · have hnd : decide (n < 0) = false := decide_eq_false hneg
              have hld : decide (u < n) = false := decide_eq_false hlt
              have HNX := As_.mk (show depL ws 0 0 = depL (ws.drop (i + 1)) (u + 1 - n) (max m (u + 1 - n)) by rw [HD.out, HDI.out, if_neg (by omega)])
              have hge : 0 ≤ n := by omega
              have hle : n ≤ u := by omega
              clear hneg hlt
              go_wp2_with fail
              all_goals
               go_roundg (ws.length - i)
               case measure => have := HI.out; have := HIL.out; omega
               case rel =>
                refine ⟨i + 1, u + (1 - n), max m (u + 1 - n), by go_num, rfl, ?_, ⟨by have := HI.out; have := HIL.out; omega⟩, ⟨by rw [HNX.out]; congr 1; omega⟩, HB1⟩
                congr 1
                omega
        · have hie : i = ws.length := by have := HI.out; omega
          have HDE : As_ (depL ws 0 0 = some (u, m)) := ⟨by rw [HD.out, hie, List.drop_of_length_le (Nat.le_refl _)]; rfl⟩
          obtain ⟨hp, hv⟩ := isP_some (by have := HLN.out; omega) HDE.out
          have HP := As_.mk hp
          have HV := As_.mk hv
          have hi2 : ¬ (i : Int) < (ws.length : Int) := by omega
          clear hp hv hi hie
          by_cases h1 : u = 1
          · have h1b : (u == 1) = true := by rw [h1]; rfl
            by_cases hm : m ≤ 16
            · have hmd : decide (m ≤ 16) = true := decide_eq_true hm
              have HPP : As_ (isP ws = true) := ⟨by rw [HP.out]; exact decide_eq_true ⟨h1, hm⟩⟩
              clear h1 hm
              go_wp2_with fail
              go_ret2
              exact ⟨m, by rw [HPP.out]; rfl, fun _ => HV.out.symm, HB.out⟩
            · have hmd : decide (m ≤ 16) = false := decide_eq_false hm
              have HPP : As_ (isP ws = false) := ⟨by rw [HP.out]; exact decide_eq_false (fun h => hm h.2)⟩
              clear h1 hm
              go_wp2_with fail
              go_ret2
              exact dp_no HPP.out HB.out _
          · have h1b : (u == 1) = false := beq_eq_false_iff_ne.2 h1
            have HPP : As_ (isP ws = false) := ⟨by rw [HP.out]; exact decide_eq_false (fun h => h1 h.1)⟩
            clear h1
            go_wp2_with fail
            go_ret2
            exact dp_no HPP.out HB.out _
def depS (ws : List ByteArray) : Int := if isP ws = true then depV ws else 0
theorem depS_no {ws : List ByteArray} (h : isP ws = false) : depS ws = 0 := if_neg (by rw [h]; decide)
set_option maxHeartbeats 2000000 in
theorem l08Depth_calls {w : World} {A : Option Addr} {c : Nat} {ws : List ByteArray} (hc : Kd.C Kd.string w A ws.length ws) (hs : ∀ i : Nat, i < ws.length → (rdOf ByteArray.empty ws (i : Int)).size ≤ 1100000) :
    Calls Tryz.prog 99 #[.agg #[.slice A ws.length c]] w fun e w' => e = .returned (.int .i64 (depS ws)) ∧ Below w.heap.size w w' := by
  have HC := As_.mk hc
  have HS := As_.mk hs
  clear hc hs
  by_cases h0 : ws.length < 1
  · have hd : decide ((ws.length : Int) < 1) = true := decide_eq_true (by omega)
    have HO := As_.mk (depS_no (isP_out (ws := ws) (.inl h0)))
    clear h0
    go_enter Tryz.func99, Tryz.ntmps99
    go_wp2_with fail
    go_ret
    exact ⟨by rw [HO.out]; rfl, ba_ (Below.refl _ _) _⟩
  · by_cases h60 : 60 < ws.length
    · have hd : decide ((ws.length : Int) < 1) = false := decide_eq_false (by omega)
      have hd2 : decide ((60 : Int) < (ws.length : Int)) = true := decide_eq_true (by omega)
      have HO := As_.mk (depS_no (isP_out (ws := ws) (.inr h60)))
      clear h60 h0
      go_enter Tryz.func99, Tryz.ntmps99
      go_wp2_with fail
      go_ret
      exact ⟨by rw [HO.out]; rfl, ba_ (Below.refl _ _) _⟩
    · have hd : decide ((ws.length : Int) < 1) = false := decide_eq_false (by omega)
      have hd2 : decide ((60 : Int) < (ws.length : Int)) = false := decide_eq_false (by omega)
      have HLN : As_ (0 < ws.length ∧ ws.length ≤ 60) := ⟨by omega⟩
      have hli : (ws.length : Int) ≤ 60 := by omega
      clear h60 h0
      have HBK0 := As_.mk (heap_alloc_new w (.cells #[.slice A ws.length c] 28))
      have HBB0 : As_ (Below w.heap.size w (w.alloc (.cells #[.slice A ws.length c] 28))) := ⟨ba_ (Below.refl _ _) _⟩
      go_enter Tryz.func99, Tryz.ntmps99
      go_upto_region 4 with fail
      generalize (w.alloc (.cells #[.slice A ws.length c] 28)) = W0 at HBK0 HBB0 ⊢
      obtain ⟨N, hNN⟩ : ∃ N, w.heap.size = N := ⟨_, rfl⟩
      have HN := As_.mk hNN
      rw [hNN] at HBK0 ⊢
      clear hNN hd hd2
      go_wp2_with fail
      go_loopg [3, 4, 5] (ws.length + 1) (fun kq s3 s4 s5 w' => ∃ (i : Nat) (u m : Int), s5 = .int .i64 i ∧ s3 = .int .i64 u ∧ s4 = .int .i64 m ∧ As_ (i ≤ ws.length ∧ 0 ≤ u ∧ u ≤ i ∧ 0 ≤ m ∧ m ≤ i ∧ ws.length < kq + i) ∧ As_ (depL ws 0 0 = depL (ws.drop i) u m) ∧ As_ (Below w.heap.size w w') ∧ As_ (w'.heap[N]? = some (.cells #[.slice A ws.length c] 28 (0, 0))))
      case atStart => exact ⟨0, 0, 0, rfl, rfl, rfl, ⟨by omega⟩, ⟨rfl⟩, HBB0, HBK0⟩
      case round =>
        obtain ⟨i, u, m, rfl, rfl, rfl, HI, HD, HB, HBK⟩ := hrel
        have k0 := kc_ HBK.out 0
        simp only [List.getElem?_toArray, List.getElem?_cons_zero, List.getElem?_cons_succ] at k0
        by_cases hi : i < ws.length
        · have hi2 : (i : Int) < (ws.length : Int) := by omega
          have hi3 : (0 : Int) ≤ (i : Int) := by omega
          obtain ⟨ad, rfl, hx⟩ := Kd.at_string (Kd.C_below HC.out HB.out) (i : Int) hi3 hi2
          rw [Int.toNat_natCast] at hx
          have HSI := As_.mk (HS.out i hi)
          have HDI := As_.mk (depL_drop hi u m)
          generalize rdOf ByteArray.empty ws (i : Int) = x at hx HSI HDI
          obtain ⟨n, hn⟩ : ∃ n, wordN x = n := ⟨_, rfl⟩
          have hnr := wordN_range x
          rw [hn] at hnr HDI
          have HN2 := As_.mk hn
          obtain ⟨hn1, hn2⟩ := hnr
          obtain ⟨HI1, HI2, HI3, HI4, HI5, HI6⟩ := HI.out
          have hhi : u ≤ 60 := by omega
          have hmi : m ≤ 60 := by omega
          have HIL := As_.mk hi
          clear hn hi HI1 HI3 HI5 HI6
          go_wp2_with fail
          refine (Needs_calls HSI.out).mono ?_
          rintro e w1 ⟨rfl, hb⟩
          rw [HN2.out]
          have HB1 := As_.mk (HB.out.trans (hb.mono HB.out.size))
          have HBK1 := As_.mk ((hb.block N (heap_lt HBK.out)).trans HBK.out)
          clear hb k0
          by_cases hneg : n < 0
          · have hnd : decide (n < 0) = true := decide_eq_true hneg
            have HNO : As_ (depS ws = 0) := ⟨depS_no (isP_none (by rw [HD.out, HDI.out, if_pos (.inl hneg)]))⟩
            go_wp2_with fail
            go_ret
            exact ⟨by rw [HNO.out]; rfl, HB1.out⟩
          · by_cases hlt : u < n
            · have hnd : decide (n < 0) = false := decide_eq_false hneg
              have hld : decide (u < n) = true := decide_eq_true hlt
              have HNO : As_ (depS ws = 0) := ⟨depS_no (isP_none (by rw [HD.out, HDI.out, if_pos (.inr hlt)]))⟩
              go_wp2_with fail
              go_ret
              exact ⟨by rw [HNO.out]; rfl, HB1.out⟩
            · have hnd : decide (n < 0) = false := decide_eq_false hneg
              have hld : decide (u < n) = false := decide_eq_false hlt
              have HNX := As_.mk (show depL ws 0 0 = depL (ws.drop (i + 1)) (u + 1 - n) (max m (u + 1 - n)) by rw [HD.out, HDI.out, if_neg (by omega)])
              have hge : 0 ≤ n := by omega
              have hle : n ≤ u := by omega
              clear hneg hlt
              go_wp2_with fail
              all_goals
               go_roundg (ws.length - i)
               case measure => have := HI.out; have := HIL.out; omega
               case rel =>
                refine ⟨i + 1, u - n + 1, max m (u + 1 - n), by go_num, rfl, ?_, ⟨by have := HI.out; have := HIL.out; omega⟩, ⟨by rw [HNX.out]; congr 1; omega⟩, HB1, HBK1⟩
                congr 1
                omega
        · have hie : i = ws.length := by have := HI.out; omega
          have HDE : As_ (depL ws 0 0 = some (u, m)) := ⟨by rw [HD.out, hie, List.drop_of_length_le (Nat.le_refl _)]; rfl⟩
          obtain ⟨hp, hv⟩ := isP_some (by have := HLN.out; omega) HDE.out
          have HP := As_.mk hp
          have HV := As_.mk hv
          have hi2 : ¬ (i : Int) < (ws.length : Int) := by omega
          clear hp hv hi hie
          by_cases h1 : u = 1
          · have h1b : (u != 1) = false := by rw [h1]; rfl
            by_cases hm : m ≤ 16
            · have hmd : decide (16 < m) = false := decide_eq_false (by omega)
              have HPP : As_ (depS ws = m) := ⟨by unfold depS; rw [if_pos (by rw [HP.out]; exact decide_eq_true ⟨h1, hm⟩), HV.out]⟩
              clear h1 hm
              go_wp2_with fail
              go_ret
              exact ⟨by rw [HPP.out]; rfl, HB.out⟩
            · have hmd : decide (16 < m) = true := decide_eq_true (by omega)
              have HPP : As_ (depS ws = 0) := ⟨depS_no (by rw [HP.out]; exact decide_eq_false (fun h => hm h.2))⟩
              clear h1 hm
              go_wp2_with fail
              go_ret
              exact ⟨by rw [HPP.out]; rfl, HB.out⟩
          · have h1b : (u != 1) = true := by simpa using h1
            have HPP : As_ (depS ws = 0) := ⟨depS_no (by rw [HP.out]; exact decide_eq_false (fun h => h1 h.1))⟩
            clear h1
            go_wp2_with fail
            go_ret
            exact ⟨by rw [HPP.out]; rfl, HB.out⟩
theorem depS_pos (ws : List ByteArray) : decide (0 < depS ws) = isP ws := by
  unfold depS
  by_cases h : isP ws = true
  · rw [if_pos h, h]
    refine decide_eq_true ?_
    unfold isP at h
    split at h
    · cases h
    · rename_i h2
      unfold depV
      split at h
      · cases h
      · rename_i a b he
        have hh := of_decide_eq_true h
        have := (depL_bound ws 0 0 a b he (by omega)).2.2.2.2 (by rintro rfl; simp at h2)
        omega
  · rw [if_neg h]
    have h2 : isP ws = false := by simpa using h
    rw [h2]
    rfl
end Go.Proofs.YtlogcnglmdpejaaGreatDoor.Hd
end
