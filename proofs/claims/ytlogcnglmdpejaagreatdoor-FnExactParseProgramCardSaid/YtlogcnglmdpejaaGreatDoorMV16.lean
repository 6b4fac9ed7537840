/- Part 16 of the proof of the card of FnExactV: walks of the functions and plain facts on them. -/
import Derived.Shelf.Strconv.ParseIntEmpty
import Derived.Shelf.LaysM
import Derived.Shelf.Strconv.Clone
import Derived.Shelf.Strconv.SyntaxError
import Derived.Shelf.LaysC
import Derived.Shelf.Strconv.ToError
import Derived.Shelf.Strconv.Lower
import Derived.Shelf.Strconv.ParseUint10
import Derived.Shelf.Strconv.ParseUint10Empty
import Derived.Shelf.Strconv.ParseUint10Any
import Derived.Shelf.Strconv.ParseInt10
import Derived.Shelf.Strconv.RangeError
import Derived.Shelf.Strconv.ToErrorRange
import Derived.Shelf.Strconv.ParseUintEmpty
import Derived.Shelf.Strconv.ParseUint10b64
import Derived.Shelf.Strconv.ParseUint10b32
import Derived.Shelf.Strconv.ParseUint10b16
import Derived.Shelf.Strconv.ParseUint10b8
import Derived.Shelf.Strconv.ParseUint10At
import Derived.Shelf.Strconv.ParseInt10At64
import Derived.Shelf.Strconv.ParseInt10At32
import Derived.Shelf.Strconv.ParseInt10At16
import Derived.Shelf.Strconv.ParseInt10At8
import Derived.Shelf.Strconv.ParseInt10All
import Derived.Shelf.Strconv.ParseIntPublic10
import Derived.Shelf.Strings.Search1
import Derived.Shelf.Strings.Search2
import Derived.Shelf.Strings.Search3
import Derived.Shelf.Strings.Shaped
import Derived.Test.YtlogcnglmdpejaaGreatDoorProg
import Derived.Test.YtlogcnglmdpejaaGreatDoorMV15
import Derived.Deep.QuietTactic
import Derived.BigQuiet
import Derived.WalkSpells
import Derived.WalkLawsBesides
import Derived.Test.YtlogcnglmdpejaaGreatDoorMV10
import Derived.Laws.Externs
import Derived.Laws.FloatArith
section
namespace Go.Proofs
open Go.Shelf
def Tryz.laysC174_ren : Go.Shelf.Ren := ⟨fun | 174 => 223 | 247 => 256 | 245 => 257 | 287 => 273 | 279 => 274 | 280 => 275 | 281 => 276 | 282 => 277 | 321 => 285 | 322 => 286 | 316 => 287 | 171 => 289 | 205 => 288 | 243 => 298 | 246 => 300 | 283 => 301 | 284 => 302 | 285 => 303 | 286 => 304 | 129 => 306 | 317 => 305 | 318 => 307 | 319 => 308 | 320 => 309 | 337 => 310 | 338 => 311 | n => n, fun | 9 => 9 | 3 => 3 | 2 => 2 | 75 => 189 | 85 => 240 | 4 => 4 | 167 => 280 | 5 => 5 | 53 => 178 | 175 => 281 | 46 => 154 | 168 => 283 | 37 => 71 | 0 => 0 | 210 => 293 | 21 => 21 | 127 => 226 | 145 => 306 | 143 => 304 | 171 => 309 | 173 => 312 | 212 => 315 | 51 => 202 | 20 => 20 | 213 => 316 | 232 => 319 | 233 => 320 | 80 => 192 | n => n, fun | 15 => 4 | 16 => 5 | 17 => 6 | 18 => 7 | 19 => 8 | n => n⟩
theorem Tryz.laysC174 : Go.Proofs.LaysC.n174 Tryz.prog Tryz.laysC174_ren := {
  mixed := by kernel_rfl
  f129 := Tryz.func306.trans (congrArg some (by kernel_rfl))
  f171 := Tryz.func289.trans (congrArg some (by kernel_rfl))
  f174 := Tryz.func223.trans (congrArg some (by kernel_rfl))
  f205 := Tryz.func288.trans (congrArg some (by kernel_rfl))
  f243 := Tryz.func298.trans (congrArg some (by kernel_rfl))
  f245 := Tryz.func257.trans (congrArg some (by kernel_rfl))
  f246 := Tryz.func300.trans (congrArg some (by kernel_rfl))
  f247 := Tryz.func256.trans (congrArg some (by kernel_rfl))
  f279 := Tryz.func274.trans (congrArg some (by kernel_rfl))
  f280 := Tryz.func275.trans (congrArg some (by kernel_rfl))
  f281 := Tryz.func276.trans (congrArg some (by kernel_rfl))
  f282 := Tryz.func277.trans (congrArg some (by kernel_rfl))
  f283 := Tryz.func301.trans (congrArg some (by kernel_rfl))
  f284 := Tryz.func302.trans (congrArg some (by kernel_rfl))
  f285 := Tryz.func303.trans (congrArg some (by kernel_rfl))
  f286 := Tryz.func304.trans (congrArg some (by kernel_rfl))
  f287 := Tryz.func273.trans (congrArg some (by kernel_rfl))
  f316 := Tryz.func287.trans (congrArg some (by kernel_rfl))
  f317 := Tryz.func305.trans (congrArg some (by kernel_rfl))
  f318 := Tryz.func307.trans (congrArg some (by kernel_rfl))
  f319 := Tryz.func308.trans (congrArg some (by kernel_rfl))
  f320 := Tryz.func309.trans (congrArg some (by kernel_rfl))
  f321 := Tryz.func285.trans (congrArg some (by kernel_rfl))
  f322 := Tryz.func286.trans (congrArg some (by kernel_rfl))
  f337 := Tryz.func310.trans (congrArg some (by kernel_rfl))
  f338 := Tryz.func311.trans (congrArg some (by kernel_rfl))
  t0 := Tryz.underlying0
  a0 := Tryz.isAgg0
  z0 := Tryz.sizeOf0
  v0 := Tryz.zeroValue0
  t2 := Tryz.underlying2
  a2 := Tryz.isAgg2
  z2 := Tryz.sizeOf2
  v2 := Tryz.zeroValue2
  t3 := Tryz.underlying3
  a3 := Tryz.isAgg3
  z3 := Tryz.sizeOf3
  v3 := Tryz.zeroValue3
  t4 := Tryz.underlying4
  a4 := Tryz.isAgg4
  z4 := Tryz.sizeOf4
  v4 := Tryz.zeroValue4
  t5 := Tryz.underlying5
  a5 := Tryz.isAgg5
  z5 := Tryz.sizeOf5
  v5 := Tryz.zeroValue5
  t9 := Tryz.underlying9
  a9 := Tryz.isAgg9
  z9 := Tryz.sizeOf9
  v9 := Tryz.zeroValue9
  t20 := Tryz.underlying20
  a20 := Tryz.isAgg20
  z20 := Tryz.sizeOf20
  v20 := Tryz.zeroValue20
  t21 := Tryz.underlying21
  a21 := Tryz.isAgg21
  z21 := Tryz.sizeOf21
  v21 := Tryz.zeroValue21
  t37 := Tryz.underlying71
  a37 := Tryz.isAgg71
  z37 := Tryz.sizeOf71
  v37 := Tryz.zeroValue71
  t46 := Tryz.underlying154
  a46 := Tryz.isAgg154
  z46 := Tryz.sizeOf154
  v46 := Tryz.zeroValue154
  t51 := Tryz.underlying202
  a51 := Tryz.isAgg202
  z51 := Tryz.sizeOf202
  v51 := Tryz.zeroValue202
  t53 := Tryz.underlying178
  a53 := Tryz.isAgg178
  z53 := Tryz.sizeOf178
  v53 := Tryz.zeroValue178
  t75 := Tryz.underlying189
  a75 := Tryz.isAgg189
  z75 := Tryz.sizeOf189
  v75 := Tryz.zeroValue189
  t85 := Tryz.underlying240
  a85 := Tryz.isAgg240
  z85 := Tryz.sizeOf240
  v85 := Tryz.zeroValue240
  t127 := Tryz.underlying226
  a127 := Tryz.isAgg226
  z127 := Tryz.sizeOf226
  v127 := Tryz.zeroValue226
  t143 := Tryz.underlying304
  a143 := Tryz.isAgg304
  z143 := Tryz.sizeOf304
  v143 := Tryz.zeroValue304
  t145 := Tryz.underlying306
  a145 := Tryz.isAgg306
  z145 := Tryz.sizeOf306
  v145 := Tryz.zeroValue306
  t167 := Tryz.underlying280
  a167 := Tryz.isAgg280
  z167 := Tryz.sizeOf280
  v167 := Tryz.zeroValue280
  t168 := Tryz.underlying283
  a168 := Tryz.isAgg283
  z168 := Tryz.sizeOf283
  v168 := Tryz.zeroValue283
  t171 := Tryz.underlying309
  a171 := Tryz.isAgg309
  z171 := Tryz.sizeOf309
  v171 := Tryz.zeroValue309
  t173 := Tryz.underlying312
  a173 := Tryz.isAgg312
  z173 := Tryz.sizeOf312
  v173 := Tryz.zeroValue312
  t175 := Tryz.underlying281
  a175 := Tryz.isAgg281
  z175 := Tryz.sizeOf281
  v175 := Tryz.zeroValue281
  t210 := Tryz.underlying293
  a210 := Tryz.isAgg293
  z210 := Tryz.sizeOf293
  v210 := Tryz.zeroValue293
  t212 := Tryz.underlying315
  a212 := Tryz.isAgg315
  z212 := Tryz.sizeOf315
  v212 := Tryz.zeroValue315
  t213 := Tryz.underlying316
  a213 := Tryz.isAgg316
  z213 := Tryz.sizeOf316
  t232 := Tryz.underlying319
  a232 := Tryz.isAgg319
  z232 := Tryz.sizeOf319
  v232 := Tryz.zeroValue319
  t233 := Tryz.underlying320
  a233 := Tryz.isAgg320
  z233 := Tryz.sizeOf320
  v233 := Tryz.zeroValue320
  g15 := by kernel_rfl
  g16 := by kernel_rfl
  g17 := by kernel_rfl
  g18 := by kernel_rfl
  g19 := by kernel_rfl
  t80 := Tryz.underlying192
  a80 := Tryz.isAgg192
  z80 := Tryz.sizeOf192
  v80 := Tryz.zeroValue192
  i0 := by kernel_rfl
  i2 := by kernel_rfl
  i3 := by kernel_rfl
  i4 := by kernel_rfl
  i5 := by kernel_rfl
  i9 := by kernel_rfl
  i20 := by kernel_rfl
  i21 := by kernel_rfl
  i37 := by kernel_rfl
  i46 := by kernel_rfl
  i51 := by kernel_rfl
  i53 := by kernel_rfl
  i75 := by kernel_rfl
  i80 := by kernel_rfl
  i85 := by kernel_rfl
  i127 := by kernel_rfl
  i143 := by kernel_rfl
  i145 := by kernel_rfl
  i167 := by kernel_rfl
  i168 := by kernel_rfl
  i171 := by kernel_rfl
  i173 := by kernel_rfl
  i175 := by kernel_rfl
  i210 := by kernel_rfl
  i212 := by kernel_rfl
  i232 := by kernel_rfl
  i233 := by kernel_rfl
  m15 := by kernel_rfl
  m16 := by kernel_rfl
  m17 := by kernel_rfl
  m18 := by kernel_rfl
  m19 := by kernel_rfl
  c0 := by kernel_rfl
  c2 := by kernel_rfl
  c3 := by kernel_rfl
  c4 := by kernel_rfl
  c5 := by kernel_rfl
  c9 := by kernel_rfl
  c20 := by kernel_rfl
  c21 := by kernel_rfl
  c37 := by kernel_rfl
  c46 := by kernel_rfl
  c51 := by kernel_rfl
  c53 := by kernel_rfl
  c75 := by kernel_rfl
  c80 := by kernel_rfl
  c85 := by kernel_rfl
  c127 := by kernel_rfl
  c143 := by kernel_rfl
  c145 := by kernel_rfl
  c167 := by kernel_rfl
  c168 := by kernel_rfl
  c171 := by kernel_rfl
  c173 := by kernel_rfl
  c175 := by kernel_rfl
  c210 := by kernel_rfl
  c212 := by kernel_rfl
  c213 := by kernel_rfl
  c232 := by kernel_rfl
  c233 := by kernel_rfl }
open Go.RowKit in
theorem Tryz.strconv_ParseInt_10_at64_ok (s : ByteArray) (hmax : s.size ≤ 9223372036854775806) (v : Int) (h : Lib.parseIntB 64 s.data.toList = .ok v) (w : World) :
    Calls Tryz.prog 223 #[.string s, .int .i64 10, .int .i64 64] w fun e w' => e = .returned (.tuple #[.int .i64 v, .nilIface]) ∧ (w' = w ∨ ∃ t, w' = Lib.bytesWorld w 5 t) := Any.strconv_ParseInt_10_at64_ok Tryz.laysC174 s hmax v h w
def Tryz.lays219_ren : Go.Shelf.Ren := ⟨fun | 219 => 209 | 217 => 245 | 225 => 246 | 224 => 247 | 267 => 248 | 266 => 271 | 314 => 272 | n => n, fun | 9 => 9 | 3 => 3 | 4 => 4 | 5 => 5 | 46 => 154 | 146 => 278 | 51 => 202 | n => n, fun | 1 => 1 | n => n⟩
theorem Tryz.lays219 : Go.Proofs.Lays.n219 Tryz.prog Tryz.lays219_ren := {
  mixed := by kernel_rfl
  f217 := Tryz.func245.trans (congrArg some (by kernel_rfl))
  f219 := Tryz.func209.trans (congrArg some (by kernel_rfl))
  f224 := Tryz.func247.trans (congrArg some (by kernel_rfl))
  f225 := Tryz.func246.trans (congrArg some (by kernel_rfl))
  f266 := Tryz.func271.trans (congrArg some (by kernel_rfl))
  f267 := Tryz.func248.trans (congrArg some (by kernel_rfl))
  f314 := Tryz.func272.trans (congrArg some (by kernel_rfl))
  t3 := Tryz.underlying3
  a3 := Tryz.isAgg3
  z3 := Tryz.sizeOf3
  v3 := Tryz.zeroValue3
  t4 := Tryz.underlying4
  a4 := Tryz.isAgg4
  z4 := Tryz.sizeOf4
  v4 := Tryz.zeroValue4
  t5 := Tryz.underlying5
  a5 := Tryz.isAgg5
  z5 := Tryz.sizeOf5
  v5 := Tryz.zeroValue5
  t9 := Tryz.underlying9
  a9 := Tryz.isAgg9
  z9 := Tryz.sizeOf9
  v9 := Tryz.zeroValue9
  t46 := Tryz.underlying154
  a46 := Tryz.isAgg154
  z46 := Tryz.sizeOf154
  v46 := Tryz.zeroValue154
  t51 := Tryz.underlying202
  a51 := Tryz.isAgg202
  z51 := Tryz.sizeOf202
  v51 := Tryz.zeroValue202
  t146 := Tryz.underlying278
  a146 := Tryz.isAgg278
  z146 := Tryz.sizeOf278
  v146 := Tryz.zeroValue278
  g1 := by kernel_rfl }
open Go.RowKit Go.Lib in
theorem Tryz.stringslite_Index_one (s : ByteArray) (c : UInt8) (w : World) :
    Calls Tryz.prog 209 #[.string s, .string ⟨#[c]⟩] w fun e w' => e = .returned (.int .i64 (Lib.indexByte s.data.toList c)) ∧ w' = w := Any.stringslite_Index_one Tryz.lays219 s c w
end Go.Proofs
end
section
namespace Go.Proofs.YtlogcnglmdpejaaGreatDoor.Hd
open Go.RowKit Go.Proofs.YtlogcnglmdpejaaGreatDoorW.PrintWords Go.Proofs.YtlogcnglmdpejaaGreatDoorW.PrintLast Go.Proofs.YtlogcnglmdpejaaGreatDoorW.PrintMore Go.Proofs.YtlogcnglmdpejaaGreatDoor.Pq
attribute [local go_sem] max2_int min2_int max_two min_two max_three min_three max_four min_four
set_option linter.unusedVariables false
set_option linter.unusedSimpArgs false
theorem cut253_yes {w : World} {s : ByteArray} (hs : s.size ≤ 2000000) (hp : pIx s < s.size) :
    Calls Tryz.prog 253 #[.string s, .string ⟨#[112]⟩] w fun e w' => e = .returned (.tuple #[.string (s.extract 0 (pIx s)), .string (s.extract (pIx s + 1) s.size), .bool true]) ∧ ∃ n, w' = w.drewN n := by
  have hix := ix_p s
  rw [if_neg (by omega)] at hix
  have hlen : (⟨#[112]⟩ : ByteArray).size = 1 := rfl
  generalize hpp : pIx s = p at hp hix ⊢
  have hp1 : (p : Int) < (s.size : Int) := by omega
  have hp2 : (p : Int) ≤ (s.size : Int) := by omega
  have hp3 : (p : Int) + 1 ≤ (s.size : Int) := by omega
  have hp4 : (s.size : Int) ≤ 2000000 := by omega
  have HIX := As_.mk hix
  have hw : IntKind.i64.wrap ((p : Int) + 1) = (p : Int) + 1 := by rw [i64_w, w64 (by omega) (by omega)]
  have hn : ((p : Int) + 1).toNat = p + 1 := by omega
  clear hix hpp
  go_enter Tryz.func253, Tryz.ntmps253
  go_wp2_with fail
  refine (Tryz.stringslite_Index_one s 112 w).mono ?_
  rintro e w1 ⟨rfl, rfl⟩
  rw [HIX.out]
  go_wp2_with fail
  go_quiet (fail)
  go_wp2_with fail
  go_ret3
  exact ⟨rfl, nq, rfl⟩
theorem cut253_no {w : World} {s : ByteArray} (hs : s.size ≤ 2000000) (hp : pIx s = s.size) :
    Calls Tryz.prog 253 #[.string s, .string ⟨#[112]⟩] w fun e w' => e = .returned (.tuple #[.string s, .string ⟨#[]⟩, .bool false]) ∧ ∃ n, w' = w.drewN n := by
  have hix := ix_p s
  rw [if_pos hp] at hix
  have HIX := As_.mk hix
  clear hix hp
  go_enter Tryz.func253, Tryz.ntmps253
  go_wp2_with fail
  refine (Tryz.stringslite_Index_one s 112 w).mono ?_
  rintro e w1 ⟨rfl, rfl⟩
  rw [HIX.out]
  go_wp2_with fail
  go_ret3
  exact ⟨rfl, 0, rfl⟩
theorem below_ofN {w : World} {n : Nat} : Below w.heap.size w (w.drewN n) := pN_ (Below.refl _ _) n
theorem cut_yes {w : World} {s : ByteArray} (hs : s.size ≤ 2000000) (hp : pIx s < s.size) :
    Calls Tryz.prog 220 #[.string s, .string ⟨#[112]⟩] w fun e w' => e = .returned (.tuple #[.string (s.extract 0 (pIx s)), .string (s.extract (pIx s + 1) s.size), .bool true]) ∧ Below w.heap.size w w' := by
  have HS := As_.mk hs
  have HP := As_.mk hp
  clear hs hp
  go_enter Tryz.func220, Tryz.ntmps220
  go_wp2_with fail
  refine (cut253_yes HS.out HP.out).mono ?_
  rintro e w1 ⟨rfl, n, rfl⟩
  go_wp2_with fail
  go_ret3
  exact ⟨rfl, below_ofN⟩
theorem cut_no {w : World} {s : ByteArray} (hs : s.size ≤ 2000000) (hp : pIx s = s.size) :
    Calls Tryz.prog 220 #[.string s, .string ⟨#[112]⟩] w fun e w' => e = .returned (.tuple #[.string s, .string ⟨#[]⟩, .bool false]) ∧ Below w.heap.size w w' := by
  have HS := As_.mk hs
  have HP := As_.mk hp
  clear hs hp
  go_enter Tryz.func220, Tryz.ntmps220
  go_wp2_with fail
  refine (cut253_no HS.out HP.out).mono ?_
  rintro e w1 ⟨rfl, n, rfl⟩
  go_wp2_with fail
  go_ret3
  exact ⟨rfl, below_ofN⟩
theorem ParseInt_calls {w : World} {s : ByteArray} (h : isNum s = true) (hl : s.size ≤ 6) :
    Calls Tryz.prog 223 #[.string s, .int .i64 10, .int .i64 64] w fun e w' => e = .returned (.tuple #[.int .i64 (numZ s), .nilIface]) ∧ Below w.heap.size w w' := by
  refine (Tryz.strconv_ParseInt_10_at64_ok s (by omega) (numZ s) (pi_num h hl) w).mono ?_
  rintro e w' ⟨rfl, hw⟩
  refine ⟨rfl, ?_⟩
  rcases hw with rfl | ⟨t, rfl⟩
  · exact Below.refl _ _
  · exact bytes_below (Below.refl _ _) (Nat.le_refl _) 5 t
theorem ParseWhole_fail {w : World} {s : ByteArray} (hs : s.size ≤ 2000000) (h : ¬ (isNum s = true ∧ bits (numZ s).natAbs ≤ 2400)) :
    Calls Tryz.prog 222 #[.string s] w fun e w' => (e = .returned (.tuple #[.agg #[.int .i64 0, .slice none 0 0], .int .i64 6]) ∨ e = .returned (.tuple #[.agg #[.int .i64 0, .slice none 0 0], .int .i64 3])) ∧ Below w.heap.size w w' := by
  by_cases h1 : isNum s = true
  · by_cases h2 : s.size ≤ 800
    · refine (ParseWhole_far h1 h2 (by rcases Nat.lt_or_ge 2400 (bits (numZ s).natAbs) with h3 | h3; exact h3; exact absurd ⟨h1, h3⟩ h)).mono ?_
      rintro e w' ⟨rfl, hb⟩
      exact ⟨.inr rfl, hb⟩
    · refine (ParseWhole_long (by omega) h1 (by omega)).mono ?_
      rintro e w' ⟨rfl, hb⟩
      exact ⟨.inr rfl, hb⟩
  · refine (ParseWhole_bad (by omega) (by simpa using h1)).mono ?_
    rintro e w' ⟨rfl, hb⟩
    exact ⟨.inl rfl, hb⟩
def NoDy (w : World) (e : Ending) (w' : World) : Prop := e = .returned (.tuple #[.agg #[.int .i64 0, .slice none 0 0, .int .i64 0], .int .i64 6]) ∧ Below w.heap.size w w'
def IsDy (w : World) (z ex : Int) (e : Ending) (w' : World) : Prop := ∃ A c, e = .returned (.tuple #[.agg #[.int .i64 (cm z 0), .slice A (E z.natAbs).length c, .int .i64 ex], .int .i64 0]) ∧ Kd.R (Kd.int .i64) 2 w' w.heap.size (fun _ => True) (.slice A (E z.natAbs).length c) (E z.natAbs) ∧ Below w.heap.size w w'
theorem noDy_end {w w1 : World} {N : Nat} {a b c : Value} (hN : w.heap.size = N) (hb : Below w.heap.size w w1) (h : w1.heap[N]? = some (.cells #[a, b, c] 56 (0, 0))) :
    (((w1.setCell ⟨N, 0, none⟩ (.int .i64 0)).setCell ⟨N, 1, none⟩ (.slice none 0 0)).setCell ⟨N, 2, none⟩ (.int .i64 0)).heap[N]? = some (.cells #[.int .i64 0, .slice none 0 0, .int .i64 0] 56 (0, 0)) ∧
    Below w.heap.size w (((w1.setCell ⟨N, 0, none⟩ (.int .i64 0)).setCell ⟨N, 1, none⟩ (.slice none 0 0)).setCell ⟨N, 2, none⟩ (.int .i64 0)) :=
  ⟨(blk_set (blk_set (blk_set h 0 _) 1 _) 2 _).trans rfl, bs_ (bs_ (bs_ hb (Nat.le_of_eq hN)) (Nat.le_of_eq hN)) (Nat.le_of_eq hN)⟩
set_option maxHeartbeats 1000000 in
theorem ParseDyadic_nop {w : World} {s : ByteArray} (hs : s.size ≤ 2000000) (hp : pIx s = s.size) : Calls Tryz.prog 180 #[.string s] w (NoDy w) := by
  have HS := As_.mk hs
  have HP := As_.mk hp
  clear hs hp
  go_enter Tryz.func180, Tryz.ntmps180
  go_wp2_with fail
  refine (cut_no HS.out HP.out).mono ?_
  rintro e w1 ⟨rfl, hb⟩
  have hblk := (hb.block w.heap.size (by simp)).trans (heap_alloc_new w _)
  have HBK := As_.mk hblk
  have HBB := As_.mk (Below.trans (ba_ (Below.refl w.heap.size w) (.cells #[.int .i64 0, .slice none 0 0, .int .i64 0] 56)) (Below.mono hb (by simp)))
  have k0 := kc_ hblk 0
  have k1 := kc_ hblk 1
  have k2 := kc_ hblk 2
  have f0 := blk_free hblk 0
  have f1 := blk_free hblk 1
  have f2 := blk_free hblk 2
  simp only [List.getElem?_toArray, List.getElem?_cons_zero, List.getElem?_cons_succ] at k0 k1 k2
  obtain ⟨N, hNN⟩ : ∃ N, w.heap.size = N := ⟨_, rfl⟩
  rw [hNN] at k0 k1 k2 f0 f1 f2 HBK ⊢
  have HN := As_.mk hNN
  clear hb hblk hNN
  go_wp2_with fail
  obtain ⟨hend, hbe⟩ := noDy_end HN.out HBB.out HBK.out
  exact bodyPost_ret (results_agg rfl _ _ N 56 #[.int .i64 0, .slice none 0 0, .int .i64 0] (0, 0) _ rfl hend Tryz.underlying56 rfl (by kernel_rfl)) rfl ⟨rfl, hbe⟩
set_option maxHeartbeats 1000000 in
theorem ParseDyadic_bad {w : World} {s : ByteArray} (hs : s.size ≤ 2000000) (hp : pIx s < s.size) (h2 : isNum (s.extract (pIx s + 1) s.size) = false) : Calls Tryz.prog 180 #[.string s] w (NoDy w) := by
  have HI := As_.mk h2
  have HS := As_.mk hs
  have HP := As_.mk hp
  clear hs hp h2
  go_enter Tryz.func180, Tryz.ntmps180
  go_wp2_with fail
  refine (cut_yes HS.out HP.out).mono ?_
  rintro e w1 ⟨rfl, hb⟩
  have HBK := As_.mk ((hb.block w.heap.size (by simp)).trans (heap_alloc_new w _))
  have HBB := As_.mk (Below.trans (ba_ (Below.refl w.heap.size w) (.cells #[.int .i64 0, .slice none 0 0, .int .i64 0] 56)) (Below.mono hb (by simp)))
  obtain ⟨N, hNN⟩ : ∃ N, w.heap.size = N := ⟨_, rfl⟩
  rw [hNN] at HBK ⊢
  have HN := As_.mk hNN
  clear hb hNN
  obtain ⟨one, hone⟩ : ∃ x, s.extract 0 (pIx s) = x := ⟨_, rfl⟩
  obtain ⟨two, htwo⟩ : ∃ x, s.extract (pIx s + 1) s.size = x := ⟨_, rfl⟩
  have H1 := As_.mk hone
  have H2 := As_.mk htwo
  have H1s : As_ (one.size ≤ 2000000) := ⟨by rw [← hone]; have := HS.out; simp; omega⟩
  have H2s : As_ (two.size ≤ 2000000) := ⟨by rw [← htwo]; have := HS.out; simp; omega⟩
  rw [hone, htwo]
  rw [htwo] at HI
  clear hone htwo
  go_wp2_with fail
  refine (isNumeral_calls two (Nat.le_trans H2s.out (by decide)) _).mono ?_
  rintro e w2 ⟨rfl, hb⟩
  rw [HI.out]
  have hblk := (hb.block N (heap_lt HBK.out)).trans HBK.out
  have HBK2 := As_.mk hblk
  have HBB2 := As_.mk (HBB.out.trans (hb.mono HBB.out.size))
  have k0 := kc_ hblk 0
  have k1 := kc_ hblk 1
  have k2 := kc_ hblk 2
  have f0 := blk_free hblk 0
  have f1 := blk_free hblk 1
  have f2 := blk_free hblk 2
  simp only [List.getElem?_toArray, List.getElem?_cons_zero, List.getElem?_cons_succ] at k0 k1 k2
  clear hb hblk
  go_wp2_with fail
  obtain ⟨hend, hbe⟩ := noDy_end HN.out HBB2.out HBK2.out
  exact bodyPost_ret (results_agg rfl _ _ N 56 #[.int .i64 0, .slice none 0 0, .int .i64 0] (0, 0) _ rfl hend Tryz.underlying56 rfl (by kernel_rfl)) rfl ⟨rfl, hbe⟩
set_option maxHeartbeats 1000000 in
theorem ParseDyadic_long {w : World} {s : ByteArray} (hs : s.size ≤ 2000000) (hp : pIx s < s.size) (h2 : isNum (s.extract (pIx s + 1) s.size) = true) (h6 : 6 < (s.extract (pIx s + 1) s.size).size) : Calls Tryz.prog 180 #[.string s] w (NoDy w) := by
  have HI := As_.mk h2
  have h6i : (6 : Int) < ((s.extract (pIx s + 1) s.size).size : Int) := by omega
  have HS := As_.mk hs
  have HP := As_.mk hp
  clear hs hp h2 h6
  go_enter Tryz.func180, Tryz.ntmps180
  go_wp2_with fail
  refine (cut_yes HS.out HP.out).mono ?_
  rintro e w1 ⟨rfl, hb⟩
  have HBK := As_.mk ((hb.block w.heap.size (by simp)).trans (heap_alloc_new w _))
  have HBB := As_.mk (Below.trans (ba_ (Below.refl w.heap.size w) (.cells #[.int .i64 0, .slice none 0 0, .int .i64 0] 56)) (Below.mono hb (by simp)))
  obtain ⟨N, hNN⟩ : ∃ N, w.heap.size = N := ⟨_, rfl⟩
  rw [hNN] at HBK ⊢
  have HN := As_.mk hNN
  clear hb hNN
  obtain ⟨one, hone⟩ : ∃ x, s.extract 0 (pIx s) = x := ⟨_, rfl⟩
  obtain ⟨two, htwo⟩ : ∃ x, s.extract (pIx s + 1) s.size = x := ⟨_, rfl⟩
  have H1 := As_.mk hone
  have H2 := As_.mk htwo
  have H1s : As_ (one.size ≤ 2000000) := ⟨by rw [← hone]; have := HS.out; simp; omega⟩
  have H2s : As_ (two.size ≤ 2000000) := ⟨by rw [← htwo]; have := HS.out; simp; omega⟩
  rw [hone, htwo]
  rw [htwo] at HI h6i
  clear hone htwo
  go_wp2_with fail
  refine (isNumeral_calls two (Nat.le_trans H2s.out (by decide)) _).mono ?_
  rintro e w2 ⟨rfl, hb⟩
  rw [HI.out]
  have hblk := (hb.block N (heap_lt HBK.out)).trans HBK.out
  have HBK2 := As_.mk hblk
  have HBB2 := As_.mk (HBB.out.trans (hb.mono HBB.out.size))
  have k0 := kc_ hblk 0
  have k1 := kc_ hblk 1
  have k2 := kc_ hblk 2
  have f0 := blk_free hblk 0
  have f1 := blk_free hblk 1
  have f2 := blk_free hblk 2
  simp only [List.getElem?_toArray, List.getElem?_cons_zero, List.getElem?_cons_succ] at k0 k1 k2
  clear hb hblk
  go_wp2_with fail
  obtain ⟨hend, hbe⟩ := noDy_end HN.out HBB2.out HBK2.out
  exact bodyPost_ret (results_agg rfl _ _ N 56 #[.int .i64 0, .slice none 0 0, .int .i64 0] (0, 0) _ rfl hend Tryz.underlying56 rfl (by kernel_rfl)) rfl ⟨rfl, hbe⟩
set_option maxHeartbeats 2000000 in
theorem ParseDyadic_fail {w : World} {s : ByteArray} (hs : s.size ≤ 2000000) (hp : pIx s < s.size) (h2 : isNum (s.extract (pIx s + 1) s.size) = true) (h6 : (s.extract (pIx s + 1) s.size).size ≤ 6) (h1 : ¬ (isNum (s.extract 0 (pIx s)) = true ∧ bits (numZ (s.extract 0 (pIx s))).natAbs ≤ 2400)) : Calls Tryz.prog 180 #[.string s] w (NoDy w) := by
  have HI := As_.mk h2
  have HF := As_.mk h1
  have h6i : ¬ (6 : Int) < ((s.extract (pIx s + 1) s.size).size : Int) := by omega
  have H6 := As_.mk h6
  have HS := As_.mk hs
  have HP := As_.mk hp
  clear hs hp h2 h6 h1
  go_enter Tryz.func180, Tryz.ntmps180
  go_wp2_with fail
  refine (cut_yes HS.out HP.out).mono ?_
  rintro e w1 ⟨rfl, hb⟩
  have HBK := As_.mk ((hb.block w.heap.size (by simp)).trans (heap_alloc_new w _))
  have HBB := As_.mk (Below.trans (ba_ (Below.refl w.heap.size w) (.cells #[.int .i64 0, .slice none 0 0, .int .i64 0] 56)) (Below.mono hb (by simp)))
  obtain ⟨N, hNN⟩ : ∃ N, w.heap.size = N := ⟨_, rfl⟩
  rw [hNN] at HBK ⊢
  have HN := As_.mk hNN
  clear hb hNN
  obtain ⟨one, hone⟩ : ∃ x, s.extract 0 (pIx s) = x := ⟨_, rfl⟩
  obtain ⟨two, htwo⟩ : ∃ x, s.extract (pIx s + 1) s.size = x := ⟨_, rfl⟩
  have H1 := As_.mk hone
  have H2 := As_.mk htwo
  have H1s : As_ (one.size ≤ 2000000) := ⟨by rw [← hone]; have := HS.out; simp; omega⟩
  have H2s : As_ (two.size ≤ 2000000) := ⟨by rw [← htwo]; have := HS.out; simp; omega⟩
  rw [hone, htwo]
  rw [htwo] at HI h6i H6
  rw [hone] at HF
  clear hone htwo
  go_wp2_with fail
  refine (isNumeral_calls two (Nat.le_trans H2s.out (by decide)) _).mono ?_
  rintro e w2 ⟨rfl, hb⟩
  rw [HI.out]
  have hblk := (hb.block N (heap_lt HBK.out)).trans HBK.out
  have HBK2 := As_.mk hblk
  have HBB2 := As_.mk (HBB.out.trans (hb.mono HBB.out.size))
  clear hb hblk
  go_wp2_with fail
  refine (ParseWhole_fail H1s.out HF.out).mono ?_
  rintro e w3 ⟨he, hb⟩
  have HBK3 := As_.mk ((hb.block N (heap_lt HBK2.out)).trans HBK2.out)
  have HBB3 := As_.mk (HBB2.out.trans (hb.mono HBB2.out.size))
  clear hb HBK HBK2 HBB HBB2
  rcases he with rfl | rfl
  all_goals
    go_wp2_with fail
    refine (ParseInt_calls HI.out H6.out).mono ?_
    rintro e w4 ⟨rfl, hb⟩
    have hba := (ba_ (Below.refl w3.heap.size w3) (.cells #[.int .i64 0, .slice none 0 0] 54)).trans (hb.mono (by simp))
    have hblk := (hba.block N (heap_lt HBK3.out)).trans HBK3.out
    have hblk7 := (hb.block w3.heap.size (by simp)).trans (heap_alloc_new w3 _)
    have j0 := kc_ hblk7 0
    have j1 := kc_ hblk7 1
    simp only [List.getElem?_toArray, List.getElem?_cons_zero, List.getElem?_cons_succ] at j0 j1
    have HBK4 := As_.mk hblk
    have HBB4 := As_.mk (HBB3.out.trans (hba.mono HBB3.out.size))
    have h4 := HBK4.out
    have HA := As_.mk ((Below.heap_alloc w4 (.cells #[.int .i64 0, .slice none 0 0, .int .i64 (numZ two)] 56) N (heap_lt h4)).trans h4)
    have k0 := kc_ HA.out 0
    have k1 := kc_ HA.out 1
    have k2 := kc_ HA.out 2
    have f0 := blk_free HA.out 0
    have f1 := blk_free HA.out 1
    have f2 := blk_free HA.out 2
    simp only [List.getElem?_toArray, List.getElem?_cons_zero, List.getElem?_cons_succ] at k0 k1 k2
    clear hb hba hblk hblk7 h4
    go_wp2_with fail
    obtain ⟨hend, hbe⟩ := noDy_end HN.out (HBB4.out.alloc HBB4.out.size _) HA.out
    exact bodyPost_ret (results_agg rfl _ _ N 56 #[.int .i64 0, .slice none 0 0, .int .i64 0] (0, 0) _ rfl hend Tryz.underlying56 rfl (by kernel_rfl)) rfl ⟨rfl, hbe⟩
set_option maxHeartbeats 2000000 in
theorem ParseDyadic_near {w : World} {s : ByteArray} (hs : s.size ≤ 2000000) (hp : pIx s < s.size) (h2 : isNum (s.extract (pIx s + 1) s.size) = true) (h6 : (s.extract (pIx s + 1) s.size).size ≤ 6) (h1 : isNum (s.extract 0 (pIx s)) = true) (hb1 : bits (numZ (s.extract 0 (pIx s))).natAbs ≤ 2400) :
    Calls Tryz.prog 180 #[.string s] w (fun e w' => if isD (numZ (s.extract 0 (pIx s))) (numZ (s.extract (pIx s + 1) s.size)) = true then IsDy w (numZ (s.extract 0 (pIx s))) (numZ (s.extract (pIx s + 1) s.size)) e w' else NoDy w e w') := by
  have HI := As_.mk h2
  have HF := As_.mk h1
  have HFB := As_.mk hb1
  have h6i : ¬ (6 : Int) < ((s.extract (pIx s + 1) s.size).size : Int) := by omega
  have H6 := As_.mk h6
  have H1sh := As_.mk (num_short h1 hb1)
  obtain ⟨b, hb⟩ : ∃ b, isD (numZ (s.extract 0 (pIx s))) (numZ (s.extract (pIx s + 1) s.size)) = b := ⟨_, rfl⟩
  have HB := As_.mk hb
  rw [hb]
  clear hb hb1
  obtain ⟨z, hz⟩ : ∃ z, numZ (s.extract 0 (pIx s)) = z := ⟨_, rfl⟩
  obtain ⟨ex, hex⟩ : ∃ ex, numZ (s.extract (pIx s + 1) s.size) = ex := ⟨_, rfl⟩
  have HZ := As_.mk hz
  have HEX := As_.mk hex
  rw [hz, hex] at HB
  rw [hz, hex]
  clear hz hex
  have HS := As_.mk hs
  have HP := As_.mk hp
  clear hs hp h2 h6 h1
  go_enter Tryz.func180, Tryz.ntmps180
  go_wp2_with fail
  refine (cut_yes HS.out HP.out).mono ?_
  rintro e w1 ⟨rfl, hb⟩
  have HBK := As_.mk ((hb.block w.heap.size (by simp)).trans (heap_alloc_new w _))
  have HBB := As_.mk (Below.trans (ba_ (Below.refl w.heap.size w) (.cells #[.int .i64 0, .slice none 0 0, .int .i64 0] 56)) (Below.mono hb (by simp)))
  obtain ⟨N, hNN⟩ : ∃ N, w.heap.size = N := ⟨_, rfl⟩
  rw [hNN] at HBK ⊢
  have HN := As_.mk hNN
  clear hb hNN
  obtain ⟨one, hone⟩ : ∃ x, s.extract 0 (pIx s) = x := ⟨_, rfl⟩
  obtain ⟨two, htwo⟩ : ∃ x, s.extract (pIx s + 1) s.size = x := ⟨_, rfl⟩
  have H1 := As_.mk hone
  have H2 := As_.mk htwo
  have H1s : As_ (one.size ≤ 2000000) := ⟨by rw [← hone]; have := HS.out; simp; omega⟩
  have H2s : As_ (two.size ≤ 2000000) := ⟨by rw [← htwo]; have := HS.out; simp; omega⟩
  rw [hone, htwo]
  rw [htwo] at HI h6i H6 HEX
  rw [hone] at HF HFB H1sh HZ
  clear hone htwo
  go_wp2_with fail
  refine (isNumeral_calls two (Nat.le_trans H2s.out (by decide)) _).mono ?_
  rintro e w2 ⟨rfl, hb⟩
  rw [HI.out]
  have hblk := (hb.block N (heap_lt HBK.out)).trans HBK.out
  have HBK2 := As_.mk hblk
  have HBB2 := As_.mk (HBB.out.trans (hb.mono HBB.out.size))
  clear hb hblk
  go_wp2_with fail
  refine (ParseWhole_near HF.out H1sh.out HFB.out).mono ?_
  rintro e w3 ⟨v, rfl, ⟨A, c, rfl, hR⟩, hb⟩
  rw [HZ.out] at hR ⊢
  have HBK3 := As_.mk ((hb.block N (heap_lt HBK2.out)).trans HBK2.out)
  have HBB3 := As_.mk (HBB2.out.trans (hb.mono HBB2.out.size))
  have HR3 := As_.mk (Kd.R_mono (ok' := fun k => N < k ∧ k < w3.heap.size) (Kd.R_bound hR) (fun k hk => ⟨by have := hk.2.1; have := heap_lt HBK2.out; omega, hk.2.2.1⟩))
  have HNW := As_.mk (show w.heap.size ≤ w2.heap.size from HBB2.out.size)
  have HEL := As_.mk (show (E z.natAbs).length ≤ 100 by rw [← HZ.out]; exact E_hundred.2 HFB.out)
  obtain ⟨sgn, hsg⟩ : ∃ x, cm z 0 = x := ⟨_, rfl⟩
  obtain ⟨E0, hE⟩ : ∃ E0, E z.natAbs = E0 := ⟨_, rfl⟩
  rw [hE] at HR3
  have HSG := As_.mk hsg
  have HE := As_.mk hE
  rw [hsg, hE]
  clear hb HBK HBK2 HBB HBB2 hR hsg hE
  go_wp2_with fail
  refine (ParseInt_calls HI.out H6.out).mono ?_
  rintro e w4 ⟨rfl, hb⟩
  rw [HEX.out]
  have hba := (ba_ (Below.refl w3.heap.size w3) (.cells #[.int .i64 sgn, .slice A E0.length c] 54)).trans (hb.mono (by simp))
  have hblk := (hba.block N (heap_lt HBK3.out)).trans HBK3.out
  have hblk7 := (hb.block w3.heap.size (by simp)).trans (heap_alloc_new w3 _)
  have j0 := kc_ hblk7 0
  have j1 := kc_ hblk7 1
  simp only [List.getElem?_toArray, List.getElem?_cons_zero, List.getElem?_cons_succ] at j0 j1
  have HBK4 := As_.mk hblk
  have HBB4 := As_.mk (HBB3.out.trans (hba.mono HBB3.out.size))
  have HR4 := As_.mk (Kd.R_below HR3.out hba)
  have HLT4 := As_.mk (show w3.heap.size ≤ w4.heap.size from hba.size)
  clear hb hba hblk hblk7
  go_wp2_with fail
  have hRA := Kd.R_alloc HR4.out (.cells #[.int .i64 sgn, .slice A E0.length c, .int .i64 ex] 56)
  obtain ⟨_, hlc, hC⟩ := Kd.R_reads' hRA
  have hf : impl_IsDyadic.f 3000 sgn E0 ex = some b := by
    have := idy_f (k := 3000) (z := z) (e := ex) (by have := HEL.out; omega) (by have := HEL.out; omega)
    rw [HSG.out, HE.out, HB.out] at this
    exact this
  refine (impl_IsDyadic.calls 3000 sgn A c E0 ex b _ hC hlc hf).mono ?_
  rintro e w5 ⟨rfl, hb⟩
  have hbA := (ba_ (Below.refl w4.heap.size w4) (.cells #[.int .i64 sgn, .slice A E0.length c, .int .i64 ex] 56)).trans (hb.mono (by simp))
  have hblk := (hbA.block N (heap_lt HBK4.out)).trans HBK4.out
  have k0 := kc_ hblk 0
  have k1 := kc_ hblk 1
  have k2 := kc_ hblk 2
  have f0 := blk_free hblk 0
  have f1 := blk_free hblk 1
  have f2 := blk_free hblk 2
  simp only [List.getElem?_toArray, List.getElem?_cons_zero, List.getElem?_cons_succ] at k0 k1 k2
  have hblk11 := (hb.block w4.heap.size (by simp)).trans (heap_alloc_new w4 _)
  have i0 := kc_ hblk11 0
  have i1 := kc_ hblk11 1
  have i2 := kc_ hblk11 2
  simp only [List.getElem?_toArray, List.getElem?_cons_zero, List.getElem?_cons_succ] at i0 i1 i2
  have HBK5 := As_.mk hblk
  have HBB5 := As_.mk (HBB4.out.trans (hbA.mono HBB4.out.size))
  have HR5 := As_.mk (Kd.R_below HR4.out hbA)
  have HNE := As_.mk (show N < w4.heap.size from heap_lt HBK4.out)
  clear hb hbA hblk hblk11 hf hC hlc hRA j0 j1
  cases b
  · go_wp2_with fail
    obtain ⟨hend, hbe⟩ := noDy_end HN.out HBB5.out HBK5.out
    refine bodyPost_ret (results_agg rfl _ _ N 56 #[.int .i64 0, .slice none 0 0, .int .i64 0] (0, 0) _ rfl hend Tryz.underlying56 rfl (by kernel_rfl)) rfl ?_
    exact ⟨rfl, hbe⟩
  · go_wp2_with fail
    have hend : (((w5.setCell ⟨N, 0, none⟩ (.int .i64 sgn)).setCell ⟨N, 1, none⟩ (.slice A E0.length c)).setCell ⟨N, 2, none⟩ (.int .i64 ex)).heap[N]? = some (.cells #[.int .i64 sgn, .slice A E0.length c, .int .i64 ex] 56 (0, 0)) := (blk_set (blk_set (blk_set HBK5.out 0 _) 1 _) 2 _).trans rfl
    refine bodyPost_ret (results_agg rfl _ _ N 56 #[.int .i64 sgn, .slice A E0.length c, .int .i64 ex] (0, 0) _ rfl hend Tryz.underlying56 rfl (by kernel_rfl)) rfl ?_
    have hg : w5.grownBy (((w5.setCell ⟨N, 0, none⟩ (.int .i64 sgn)).setCell ⟨N, 1, none⟩ (.slice A E0.length c)).setCell ⟨N, 2, none⟩ (.int .i64 ex)) (some N) := grown_set (grown_set (grown_set (grown_below (Below.refl _ _) N) _ _) _ _) _ _
    refine ⟨A, c, by rw [HSG.out, HE.out]; rfl, ?_, bs_ (bs_ (bs_ HBB5.out (Nat.le_of_eq HN.out)) (Nat.le_of_eq HN.out)) (Nat.le_of_eq HN.out)⟩
    rw [HE.out]
    exact Kd.R_mono (Kd.R_grown (Kd.R_lower HR5.out HNW.out) hg (fun k hk he => by injection he with he; have := hk.1; omega)) (fun _ _ => trivial)
def PdPost (s : ByteArray) (w : World) (e : Ending) (w' : World) : Prop := match rdy s with | none => NoDy w e w' | some (z, ex) => IsDy w z ex e w'
theorem ParseDyadic_calls {w : World} {s : ByteArray} (hs : s.size ≤ 2000000) : Calls Tryz.prog 180 #[.string s] w (PdPost s w) := by
  unfold PdPost rdy
  have hpl := pIx_le s
  by_cases hp : pIx s = s.size
  · rw [if_pos hp]
    exact ParseDyadic_nop hs hp
  · rw [if_neg hp]
    have hp2 : pIx s < s.size := by omega
    by_cases h2 : isNum (s.extract (pIx s + 1) s.size) = true
    · by_cases h1 : isNum (s.extract 0 (pIx s)) = true ∧ bits (numZ (s.extract 0 (pIx s))).natAbs ≤ 2400
      · by_cases h6 : (s.extract (pIx s + 1) s.size).size ≤ 6
        · refine (ParseDyadic_near hs hp2 h2 h6 h1.1 h1.2).mono ?_
          intro e w' h
          by_cases hd : isD (numZ (s.extract 0 (pIx s))) (numZ (s.extract (pIx s + 1) s.size)) = true
          · rw [if_pos hd] at h
            rw [if_pos ⟨h1.1, h2, hd⟩]
            exact h
          · rw [if_neg hd] at h
            rw [if_neg (fun hh => hd hh.2.2)]
            exact h
        · rw [if_neg]
          · exact ParseDyadic_long hs hp2 h2 (by omega)
          · rintro ⟨_, _, h⟩
            unfold isD at h
            simp only [Bool.and_eq_true, decide_eq_true_eq] at h
            exact h6 (num_tiny h2 h.2.1)
      · rw [if_neg]
        · by_cases h6 : (s.extract (pIx s + 1) s.size).size ≤ 6
          · exact ParseDyadic_fail hs hp2 h2 h6 h1
          · exact ParseDyadic_long hs hp2 h2 (by omega)
        · rintro ⟨h3, _, h⟩
          unfold isD at h
          simp only [Bool.and_eq_true, decide_eq_true_eq] at h
          exact h1 ⟨h3, h.1⟩
    · rw [if_neg (fun hh => h2 hh.2.1)]
      exact ParseDyadic_bad hs hp2 (by simpa using h2)
theorem from64 (u : Int) (w : World) : (callFunc 290 #[.int .u64 u]).run Tryz.prog w = .ok (.value (.float .f64 u.toNat)) w := by
  rw [run_callFunc_extern (P := Tryz.prog) (f := 290) (fn := Tryz.f290) (e := Extern.MathFloatBits.float64frombits) (by kernel_rfl) (by kernel_rfl) (by kernel_rfl) (by kernel_rfl) (by rfl)]
  rfl
theorem bits64 (b : Nat) (w : World) : (callFunc 294 #[.float .f64 b]).run Tryz.prog w = .ok (.value (.int .u64 b)) w := by
  rw [run_callFunc_extern (P := Tryz.prog) (f := 294) (fn := Tryz.f294) (e := Extern.MathFloatBits.float64bits) (by kernel_rfl) (by kernel_rfl) (by kernel_rfl) (by kernel_rfl) (by rfl)]
  rfl
set_option maxRecDepth 100000 in
theorem infinite_calls {w : World} (s : Int) : Calls Tryz.prog 262 #[.int .i64 s] w fun e w' => (∃ b, e = .returned (.float .f32 b)) ∧ w = w' := by
  have hf := fun (u : Int) (W : World) => from64 u W
  have hr1 : floatToFloatBits .f64 9218868437227405312 .f32 = some 2139095040 := by kernel_rfl
  have hr2 : floatToFloatBits .f64 18442240474082181120 .f32 = some 4286578688 := by kernel_rfl
  have hc1 := fun (W : World) => run_convert_float_float (P := Tryz.prog) W 115 65 .f64 .f32 _ _ (by kernel_rfl) Tryz.underlying65 hr1
  have hc2 := fun (W : World) => run_convert_float_float (P := Tryz.prog) W 115 65 .f64 .f32 _ _ (by kernel_rfl) Tryz.underlying65 hr2
  by_cases h : 0 ≤ s
  · have hd : decide (0 ≤ s) = true := decide_eq_true h
    go_enter Tryz.func262, Tryz.ntmps262
    go_wp2
    go_ret
    exact ⟨⟨_, rfl⟩, rfl⟩
  · have hd : decide (0 ≤ s) = false := decide_eq_false h
    go_enter Tryz.func262, Tryz.ntmps262
    go_wp2
    go_ret
    exact ⟨⟨_, rfl⟩, rfl⟩
end Go.Proofs.YtlogcnglmdpejaaGreatDoor.Hd
end
section
namespace Go.Proofs.YtlogcnglmdpejaaGreatDoor.Hd
open Ieee
theorem cut_zero (neg : Bool) (n : Nat) : Toward.even.cut neg n 0 = n := by
  unfold Toward.cut
  simp [Nat.mod_one]
theorem nearest_double {m : Nat} (h0 : 0 < m) (h1 : m < 2 ^ 53) : double.nearest false m 0 = (m.log2 + 1022) * 4503599627370496 + m * 2 ^ (52 - m.log2) := by
  have hl : m.log2 < 53 := (Nat.log2_lt (by omega)).2 h1
  have hk : m * 2 ^ (52 - m.log2) < 2 ^ 53 := by
    have h2 := Nat.lt_log2_self (n := m)
    have h3 : 2 ^ 53 = 2 ^ (m.log2 + 1) * 2 ^ (52 - m.log2) := by rw [← Nat.pow_add]; congr 1; omega
    rw [h3]
    exact Nat.mul_lt_mul_of_pos_right h2 (Nat.two_pow_pos _)
  unfold Format.nearest
  have hm : m ≠ 0 := by omega
  have hlp : double.leastPlace = -1074 := rfl
  have hfb : double.fractionBits = 52 := rfl
  have hbn : double.binade = 4503599627370496 := rfl
  have hir : double.infRung = 9218868437227405312 := rfl
  simp only [if_neg hm, hlp, hfb, hbn, hir, Format.word, Bool.false_eq_true, if_false]
  have hmax : max (0 + (m.log2 : Int) - ((52 : Nat) : Int)) (-1074) = (m.log2 : Int) - 52 := by omega
  have e1 : ((0 : Int) - ((m.log2 : Int) - 52)).toNat = 52 - m.log2 := by omega
  have e2 : ((m.log2 : Int) - 52 - 0).toNat = 0 := by omega
  have e3 : ((m.log2 : Int) - 52 - -1074).toNat = m.log2 + 1022 := by omega
  rw [hmax]
  simp only [e1, e2, e3, cut_zero, Nat.shiftLeft_eq]
  refine Nat.min_eq_left ?_
  omega
theorem read_double {q f : Nat} (h0 : 0 < q) (h1 : q < 2047) (h2 : f < 4503599627370496) : double.read (q * 4503599627370496 + f) = .number false (4503599627370496 + f) ((q : Int) - 1075) := by
  have hsw : double.signWeight = 9223372036854775808 := rfl
  have hlp : double.leastPlace = -1074 := rfl
  have hbn : double.binade = 4503599627370496 := rfl
  have hir : double.infRung = 9218868437227405312 := rfl
  have hlt : q * 4503599627370496 + f < 9218868437227405312 := by omega
  have e1 : (q * 4503599627370496 + f) / 9223372036854775808 % 2 = 0 := by omega
  have e2 : (q * 4503599627370496 + f) % 9223372036854775808 = q * 4503599627370496 + f := by omega
  have e3 : (q * 4503599627370496 + f) % 4503599627370496 = f := by omega
  have e4 : (q * 4503599627370496 + f) / 4503599627370496 = q := by omega
  unfold Format.read
  simp only [hsw, hlp, hbn, hir, e1, e2, e3, e4]
  rw [if_neg (by omega), if_pos hlt]
  congr 1
  omega
theorem mul_one_double {q f : Nat} (h0 : 0 < q) (h1 : q < 2047) (h2 : f < 4503599627370496) : double.mul 4607182418800017408 (q * 4503599627370496 + f) = some (q * 4503599627370496 + f) := by
  unfold Format.mul
  rw [read_double h0 h1 h2]
  have ho : double.read 4607182418800017408 = .number false 4503599627370496 (-52) := read_double (q := 1023) (f := 0) (by decide) (by decide) (by decide)
  rw [ho]
  simp only [Datum.product, Option.map_some]
  congr 1
  unfold Format.write
  simp only [Bool.xor_self]
  unfold Format.nearest
  have hlp : double.leastPlace = -1074 := rfl
  have hfb : double.fractionBits = 52 := rfl
  have hbn : double.binade = 4503599627370496 := rfl
  have hir : double.infRung = 9218868437227405312 := rfl
  have hm : 4503599627370496 * (4503599627370496 + f) ≠ 0 := by omega
  have hlog : (4503599627370496 * (4503599627370496 + f)).log2 = 104 := by
    refine (Nat.log2_eq_iff hm).2 ⟨?_, ?_⟩ <;> omega
  have hmax : max (-52 + ((q : Int) - 1075) + ((104 : Nat) : Int) - ((52 : Nat) : Int)) (-1074) = (q : Int) - 1075 := by omega
  simp only [if_neg hm, hlp, hfb, hbn, hir, hlog, hmax, Format.word, Bool.false_eq_true, if_false]
  have e1 : (-52 + ((q : Int) - 1075) - ((q : Int) - 1075)).toNat = 0 := by omega
  have e2 : ((q : Int) - 1075 - (-52 + ((q : Int) - 1075))).toNat = 52 := by omega
  have e3 : ((q : Int) - 1075 - -1074).toNat = q - 1 := by omega
  rw [e1, e2, e3]
  have hc : Toward.even.cut false ((4503599627370496 * (4503599627370496 + f)) <<< 0) 52 = 4503599627370496 + f := by
    unfold Toward.cut
    simp only [Nat.shiftLeft_zero, hlog]
    have hg : 1 <<< min 52 (104 + 2) = 4503599627370496 := by decide
    rw [hg, Nat.mul_div_cancel_left _ (by decide), Nat.mul_mod_right]
    simp
  rw [hc]
  rw [Nat.min_eq_left (by omega)]
  omega
theorem dbl_lp : double.leastPlace = -1074 := rfl
theorem dbl_fb : double.fractionBits = 52 := rfl
theorem dbl_bn : double.binade = 4503599627370496 := rfl
theorem dbl_ir : double.infRung = 9218868437227405312 := rfl
theorem sgl_lp : single.leastPlace = -149 := rfl
theorem sgl_fb : single.fractionBits = 23 := rfl
theorem sgl_bn : single.binade = 8388608 := rfl
theorem sgl_ir : single.infRung = 2139095040 := rfl
theorem sgl_sw : single.signWeight = 2147483648 := rfl
theorem log2_mul_pow {M : Nat} (h : 0 < M) (k : Nat) : (M * 2 ^ k).log2 = M.log2 + k := by
  have hp := Nat.two_pow_pos k
  have h1 := Nat.log2_self_le (n := M) (by omega)
  have h2 := Nat.lt_log2_self (n := M)
  refine (Nat.log2_eq_iff (Nat.ne_of_gt (Nat.mul_pos h hp))).2 ⟨?_, ?_⟩
  · rw [Nat.pow_add]
    exact Nat.mul_le_mul_right _ h1
  · rw [show M.log2 + k + 1 = (M.log2 + 1) + k by omega, Nat.pow_add]
    exact Nat.mul_lt_mul_of_pos_right h2 hp
theorem cut_exact (neg : Bool) (M : Nat) (h : 0 < M) (k : Nat) : Toward.even.cut neg (M * 2 ^ k) k = M := by
  unfold Toward.cut
  have hp := Nat.two_pow_pos k
  have hm : min k ((M * 2 ^ k).log2 + 2) = k := by
    rw [log2_mul_pow h]
    omega
  simp only [hm, Nat.one_shiftLeft]
  rw [Nat.mul_div_cancel _ hp, Nat.mul_mod_left]
  have h1 : decide (2 ^ k < 2 * 0) = false := by simp
  have h2 : ((2 ^ k == 2 * 0) : Bool) = false := by
    rw [beq_eq_false_iff_ne]
    omega
  rw [h1, h2]
  simp
theorem nearest_double_shift (neg : Bool) {M k : Nat} {p : Int} (h1 : 4503599627370496 ≤ M) (h2 : M < 9007199254740992) (h3 : -1074 ≤ p + k) (h4 : p + k ≤ 971) :
    double.nearest neg (M * 2 ^ k) p = double.word neg ((p + k + 1074).toNat * 4503599627370496 + M) := by
  have hM : 0 < M := by omega
  have hp := Nat.two_pow_pos k
  have hl : M.log2 = 52 := (Nat.log2_eq_iff (by omega)).2 ⟨by omega, by omega⟩
  have hne : M * 2 ^ k ≠ 0 := Nat.ne_of_gt (Nat.mul_pos hM hp)
  unfold Format.nearest
  simp only [if_neg hne, dbl_lp, dbl_fb, dbl_bn, dbl_ir, log2_mul_pow hM, hl]
  have hmax : max (p + ((52 + k : Nat) : Int) - ((52 : Nat) : Int)) (-1074) = p + k := by omega
  rw [hmax]
  have e1 : (p - (p + (k : Int))).toNat = 0 := by omega
  have e2 : (p + (k : Int) - p).toNat = k := by omega
  have e3 : (p + (k : Int) - -1074).toNat = (p + k + 1074).toNat := by omega
  rw [e1, e2, e3, Nat.shiftLeft_zero, cut_exact _ _ hM, Nat.min_eq_left (by omega)]
def dword (m : Nat) (q : Int) : Nat := (q + m.log2 + 1022).toNat * 4503599627370496 + m * 2 ^ (52 - m.log2)
theorem sig_double {m : Nat} (h0 : 0 < m) (h1 : m < 9007199254740992) : m.log2 ≤ 52 ∧ 4503599627370496 ≤ m * 2 ^ (52 - m.log2) ∧ m * 2 ^ (52 - m.log2) < 9007199254740992 := by
  have hl : m.log2 < 53 := (Nat.log2_lt (by omega)).2 h1
  have h2 := Nat.lt_log2_self (n := m)
  have h3 := Nat.log2_self_le (n := m) (by omega)
  refine ⟨by omega, ?_, ?_⟩
  · have e : (4503599627370496 : Nat) = 2 ^ m.log2 * 2 ^ (52 - m.log2) := by rw [← Nat.pow_add, show m.log2 + (52 - m.log2) = 52 by omega]
    rw [e]
    exact Nat.mul_le_mul_right _ h3
  · have e : (9007199254740992 : Nat) = 2 ^ (m.log2 + 1) * 2 ^ (52 - m.log2) := by rw [← Nat.pow_add, show m.log2 + 1 + (52 - m.log2) = 53 by omega]
    rw [e]
    exact Nat.mul_lt_mul_of_pos_right h2 (Nat.two_pow_pos _)
theorem dword_parts {m : Nat} {q : Int} (h0 : 0 < m) (h1 : m < 9007199254740992) (h2 : -1022 ≤ q + m.log2) (h3 : q + m.log2 ≤ 1023) :
    ∃ f, dword m q = (q + m.log2 + 1023).toNat * 4503599627370496 + f ∧ f < 4503599627370496 ∧ m * 2 ^ (52 - m.log2) = 4503599627370496 + f := by
  obtain ⟨_, a, b⟩ := sig_double h0 h1
  refine ⟨m * 2 ^ (52 - m.log2) - 4503599627370496, ?_, by omega, by omega⟩
  unfold dword
  omega
theorem read_dword {m : Nat} {q : Int} (h0 : 0 < m) (h1 : m < 9007199254740992) (h2 : -1022 ≤ q + m.log2) (h3 : q + m.log2 ≤ 1023) :
    double.read (dword m q) = .number false (m * 2 ^ (52 - m.log2)) (q + m.log2 - 52) := by
  obtain ⟨f, e, hf, hm⟩ := dword_parts h0 h1 h2 h3
  rw [e, read_double (by omega) (by omega) hf, hm]
  congr 1
  omega
theorem int_double {m : Nat} (h0 : 0 < m) (h1 : m < 9007199254740992) : Go.floatOfInt .f64 (m : Int) = dword m 0 := by
  show double.nearest ((m : Int) < 0) (m : Int).natAbs 0 = _
  rw [show (decide ((m : Int) < 0)) = false from decide_eq_false (by omega), Int.natAbs_natCast, nearest_double h0 h1]
  unfold dword
  congr 2
  omega
theorem mul_pow_dword {m : Nat} {q : Int} {c : Nat} (h0 : 0 < m) (h1 : m < 9007199254740992) (h2 : -1022 ≤ q + m.log2) (h3 : q + m.log2 ≤ 1023) (c0 : 0 < c) (c1 : c < 2047)
    (h4 : -1022 ≤ q + m.log2 + (c - 1023)) (h5 : q + m.log2 + (c - 1023) ≤ 1023) :
    double.mul (dword m q) (c * 4503599627370496) = some (dword m (q + (c - 1023))) := by
  obtain ⟨_, a, b⟩ := sig_double h0 h1
  have hc : double.read (c * 4503599627370496) = .number false 4503599627370496 ((c : Int) - 1075) := by
    have := read_double (q := c) (f := 0) c0 c1 (by decide)
    simpa using this
  unfold Format.mul
  rw [read_dword h0 h1 h2 h3, hc]
  simp only [Datum.product, Option.map_some, Bool.xor_self]
  unfold Format.write
  simp only
  rw [show (4503599627370496 : Nat) = 2 ^ 52 by decide, nearest_double_shift false (by omega) (by omega) (by omega) (by omega)]
  unfold dword Format.word
  simp only [Bool.false_eq_true, if_false]
  congr 3
  omega
theorem twice_dword {m : Nat} {q : Int} (h0 : 0 < m) (h1 : m < 9007199254740992) (h2 : -1022 ≤ q + m.log2) (h3 : q + m.log2 < 1023) :
    double.mul (dword m q) 4611686018427387904 = some (dword m (q + 1)) := by
  have h := mul_pow_dword (c := 1024) h0 h1 h2 (by omega) (by omega) (by omega) (by omega) (by omega)
  exact h
theorem half_dword {m : Nat} {q : Int} (h0 : 0 < m) (h1 : m < 9007199254740992) (h2 : -1022 < q + m.log2) (h3 : q + m.log2 ≤ 1023) :
    double.div (dword m q) 4611686018427387904 = some (dword m (q - 1)) := by
  obtain ⟨_, a, b⟩ := sig_double h0 h1
  have hc : double.read 4611686018427387904 = .number false 4503599627370496 (-51) := read_double (q := 1024) (f := 0) (by decide) (by decide) (by decide)
  unfold Format.div
  rw [read_dword h0 h1 (by omega) h3, hc]
  have hl : (m * 2 ^ (52 - m.log2)).log2 = 52 := (Nat.log2_eq_iff (by omega)).2 ⟨by omega, by omega⟩
  have hl2 : Nat.log2 4503599627370496 = 52 := by decide
  simp only [Datum.quotient, dbl_fb, hl, hl2]
  rw [if_neg (by decide)]
  simp only [Option.map_some, Bool.xor_self, Nat.shiftLeft_eq]
  have e0 : 52 + 2 + 52 - 52 = 2 + 52 := by decide
  have e1 : m * 2 ^ (52 - m.log2) * 2 ^ (52 + 2 + 52 - 52) = (m * 2 ^ (52 - m.log2) * 4) * 4503599627370496 := by
    rw [e0, Nat.pow_add, ← Nat.mul_assoc]
  have e2 : (m * 2 ^ (52 - m.log2) * 4) * 4503599627370496 / 4503599627370496 = m * 2 ^ (52 - m.log2) * 4 := Nat.mul_div_cancel _ (by decide)
  have e3 : (m * 2 ^ (52 - m.log2) * 4) * 4503599627370496 % 4503599627370496 = 0 := Nat.mul_mod_left _ _
  rw [e1, e2, e3]
  unfold Format.write
  simp only
  have e4 : 2 * (m * 2 ^ (52 - m.log2) * 4) + ((0 != 0 : Bool)).toNat = m * 2 ^ (52 - m.log2) * 2 ^ 3 := by
    show 2 * (m * 2 ^ (52 - m.log2) * 4) + 0 = _
    omega
  rw [e4, nearest_double_shift false (by omega) (by omega) (by omega) (by omega)]
  unfold dword Format.word
  simp only [Bool.false_eq_true, if_false]
  congr 3
  omega
theorem zero_mul_pow {c : Nat} (c0 : 0 < c) (c1 : c < 2047) : double.mul 0 (c * 4503599627370496) = some 0 := by
  have hc : double.read (c * 4503599627370496) = .number false 4503599627370496 ((c : Int) - 1075) := by
    have := read_double (q := c) (f := 0) c0 c1 (by decide)
    simpa using this
  have hz : double.read 0 = .number false 0 (-1074) := rfl
  unfold Format.mul
  rw [hz, hc]
  simp only [Datum.product, Option.map_some, Bool.xor_self, Nat.zero_mul]
  rfl
theorem zero_div_two : double.div 0 4611686018427387904 = some 0 := by
  have hc : double.read 4611686018427387904 = .number false 4503599627370496 (-51) := read_double (q := 1024) (f := 0) (by decide) (by decide) (by decide)
  have hz : double.read 0 = .number false 0 (-1074) := rfl
  unfold Format.div
  rw [hz, hc]
  simp only [Datum.quotient]
  rw [if_neg (by decide)]
  simp only [Option.map_some, Bool.xor_self, Nat.zero_shiftLeft, Nat.zero_div, Nat.zero_mod, Nat.mul_zero, Nat.zero_add]
  rfl
theorem dword_top (q : Int) : dword 16777216 q = dword 1 (q + 24) := by
  have h1 : Nat.log2 16777216 = 24 := by decide
  have h2 : Nat.log2 1 = 0 := by decide
  unfold dword
  rw [h1, h2]
  congr 2
  omega
theorem nearest_single_shift (neg : Bool) {K d : Nat} {p : Int} (h0 : 0 < K) (h1 : K < 16777216) (h2 : -149 ≤ p + d) (h3 : p + d ≤ 104) (h4 : 8388608 ≤ K ∨ p + d = -149) :
    single.nearest neg (K * 2 ^ d) p = single.word neg ((p + d + 149).toNat * 8388608 + K) := by
  have hp := Nat.two_pow_pos d
  have hl : K.log2 < 24 := (Nat.log2_lt (by omega)).2 h1
  have hl2 : 8388608 ≤ K → K.log2 = 23 := fun h => (Nat.log2_eq_iff (by omega)).2 ⟨by omega, by omega⟩
  have hne : K * 2 ^ d ≠ 0 := Nat.ne_of_gt (Nat.mul_pos h0 hp)
  unfold Format.nearest
  simp only [if_neg hne, sgl_lp, sgl_fb, sgl_bn, sgl_ir, log2_mul_pow h0]
  have hmax : max (p + ((K.log2 + d : Nat) : Int) - ((23 : Nat) : Int)) (-149) = p + d := by
    rcases h4 with h | h
    · have := hl2 h
      omega
    · omega
  rw [hmax]
  have e1 : (p - (p + (d : Int))).toNat = 0 := by omega
  have e2 : (p + (d : Int) - p).toNat = d := by omega
  have e3 : (p + (d : Int) - -149).toNat = (p + d + 149).toNat := by omega
  rw [e1, e2, e3, Nat.shiftLeft_zero, cut_exact _ _ h0, Nat.min_eq_left (by omega)]
theorem read_single_low {b : Nat} (h : b < 8388608) : single.read b = .number false b (-149) := by
  have e1 : b / 2147483648 % 2 = 0 := by omega
  have e2 : b % 2147483648 = b := by omega
  unfold Format.read
  simp only [sgl_sw, sgl_lp, sgl_bn, sgl_ir, e1, e2]
  rw [if_pos h]
  rfl
theorem read_single_high {b : Nat} (h : 8388608 ≤ b) (h1 : b < 2139095040) : single.read b = .number false (8388608 + b % 8388608) ((b / 8388608 : Nat) - 150 : Int) := by
  have e1 : b / 2147483648 % 2 = 0 := by omega
  have e2 : b % 2147483648 = b := by omega
  unfold Format.read
  simp only [sgl_sw, sgl_lp, sgl_bn, sgl_ir, e1, e2]
  rw [if_neg (by omega), if_pos h1]
  congr 1
  omega
theorem mul_minus_one {b : Nat} (h : b < 2139095040) : single.mul b 3212836864 = some (2147483648 + b) := by
  have hc : single.read 3212836864 = .number true 8388608 (-23) := rfl
  unfold Format.mul
  rw [hc]
  by_cases hb : b < 8388608
  · rw [read_single_low hb]
    simp only [Datum.product, Option.map_some]
    unfold Format.write
    simp only [Bool.false_xor]
    rcases Nat.eq_zero_or_pos b with rfl | h0
    · rfl
    · rw [show (8388608 : Nat) = 2 ^ 23 by decide, nearest_single_shift true h0 (by omega) (by omega) (by omega) (.inr (by omega))]
      have e : ((-149 : Int) + -23 + ((23 : Nat) : Int) + 149).toNat = 0 := rfl
      rw [e]
      unfold Format.word
      rw [if_pos rfl, sgl_sw]
      congr 1
      omega
  · rw [read_single_high (by omega) h]
    simp only [Datum.product, Option.map_some]
    unfold Format.write
    simp only [Bool.false_xor]
    have hk : 8388608 ≤ 8388608 + b % 8388608 := by omega
    have hk2 : 8388608 + b % 8388608 < 16777216 := by omega
    have hk3 : ((b / 8388608 : Nat) : Int) - 150 + -23 + (23 : Nat) ≤ 104 := by omega
    have hk4 : -149 ≤ ((b / 8388608 : Nat) : Int) - 150 + -23 + (23 : Nat) := by omega
    have hk5 : (((b / 8388608 : Nat) : Int) - 150 + -23 + (23 : Nat) + 149).toNat * 8388608 + (8388608 + b % 8388608) = b := by omega
    generalize 8388608 + b % 8388608 = K at *
    have := nearest_single_shift (d := 23) true (show 0 < K by omega) hk2 hk4 hk3 (.inl hk)
    rw [show (8388608 : Nat) = 2 ^ 23 by decide, this, hk5]
    rfl
theorem neg_single {b : Nat} (h : b < 2147483648) : Go.Op.negFloat .f32 b = 2147483648 + b := by
  show b ^^^ 2 ^ 31 = 2 ^ 31 + b
  refine Nat.eq_of_testBit_eq fun i => ?_
  rw [Nat.testBit_xor, Nat.testBit_two_pow]
  by_cases hi : i = 31
  · subst hi
    rw [Nat.testBit_two_pow_add_eq]
    rw [Nat.testBit_lt_two_pow (by omega)]
    simp
  · rw [show decide (31 = i) = false from decide_eq_false (fun e => hi e.symm), Bool.xor_false]
    rcases Nat.lt_or_gt_of_ne hi with h2 | h2
    · rw [Nat.testBit_two_pow_add_gt h2]
    · rw [Nat.testBit_lt_two_pow (Nat.lt_of_lt_of_le h (Nat.pow_le_pow_right (n := 2) (by decide) (show 31 ≤ i by omega))), Nat.testBit_lt_two_pow]
      exact Nat.lt_of_lt_of_le (show 2 ^ 31 + b < 2 ^ 32 by omega) (Nat.pow_le_pow_right (n := 2) (by decide) (show 32 ≤ i by omega))
def lastp (m : Nat) (q : Int) : Int := max (q + m.log2 - 23) (-149)
def sword (m : Nat) (q : Int) : Nat := (lastp m q + 149).toNat * 8388608 + m * 2 ^ (q - lastp m q).toNat
theorem sword_kept {m : Nat} {q : Int} (h0 : 0 < m) (h1 : m < 16777216) (h2 : -149 ≤ q) : lastp m q ≤ q ∧ -149 ≤ lastp m q ∧ 0 < m * 2 ^ (q - lastp m q).toNat ∧ m * 2 ^ (q - lastp m q).toNat < 16777216 ∧ (8388608 ≤ m * 2 ^ (q - lastp m q).toNat ∨ lastp m q = -149) := by
  have hl : m.log2 < 24 := (Nat.log2_lt (by omega)).2 h1
  have hlt := Nat.lt_log2_self (n := m)
  have hle := Nat.log2_self_le (n := m) (by omega)
  unfold lastp
  have hp := Nat.two_pow_pos (q - max (q + m.log2 - 23) (-149)).toNat
  refine ⟨by omega, by omega, Nat.mul_pos h0 hp, ?_, ?_⟩
  · refine Nat.lt_of_lt_of_le (Nat.mul_lt_mul_of_pos_right hlt hp) ?_
    rw [← Nat.pow_add]
    exact Nat.pow_le_pow_right (by decide) (show _ ≤ 24 by omega)
  · by_cases h : -126 ≤ q + m.log2
    · left
      refine Nat.le_trans ?_ (Nat.mul_le_mul_right _ hle)
      rw [← Nat.pow_add]
      exact Nat.pow_le_pow_right (n := 2) (by decide) (show 23 ≤ _ by omega)
    · right
      omega
theorem sword_lt {m : Nat} {q : Int} (h0 : 0 < m) (h1 : m < 16777216) (h2 : -149 ≤ q) (h3 : q + m.log2 ≤ 127) : sword m q < 2139095040 := by
  obtain ⟨a, b, c, d, e⟩ := sword_kept h0 h1 h2
  have hl : lastp m q ≤ 104 := by unfold lastp; omega
  unfold sword
  omega
theorem narrow_dword {m : Nat} {q : Int} (h0 : 0 < m) (h1 : m < 16777216) (h2 : -149 ≤ q) (h3 : q + m.log2 ≤ 127) : Go.floatToFloatBits .f64 (dword m q) .f32 = some (sword m q) := by
  have hl : m.log2 < 24 := (Nat.log2_lt (by omega)).2 h1
  obtain ⟨a, b, c, d, e⟩ := sword_kept h0 h1 h2
  have hlt := sword_lt h0 h1 h2 h3
  have hr := read_dword (q := q) h0 (by omega) (by omega) (by omega)
  have hpl : lastp m q ≤ 104 := by unfold lastp; omega
  have hpd : q + m.log2 - 23 ≤ lastp m q := by unfold lastp; omega
  have hpe : lastp m q ≤ 0 ∨ lastp m q = q + m.log2 - 23 := by unfold lastp; omega
  have hM : m * 2 ^ (52 - m.log2) = (m * 2 ^ (q - lastp m q).toNat) * 2 ^ (lastp m q - (q + m.log2 - 52)).toNat := by
    rw [Nat.mul_assoc, ← Nat.pow_add]
    congr 2
    omega
  have hn : single.nearest false (m * 2 ^ (52 - m.log2)) (q + m.log2 - 52) = sword m q := by
    rw [hM, nearest_single_shift false c d (by omega) (by omega) (by omega)]
    unfold sword Format.word
    simp only [Bool.false_eq_true, if_false]
    congr 2
    omega
  have hd : Go.FloatKind.decode .f64 (dword m q) = .number false (m * 2 ^ (52 - m.log2)) (q + m.log2 - 52) := hr
  unfold Go.floatToFloatBits
  rw [if_neg (by decide), hd]
  simp only
  have he : Go.FloatKind.encode .f32 (.number false (m * 2 ^ (52 - m.log2)) (q + m.log2 - 52)) = sword m q := hn
  rw [he]
  have hi : (Go.FloatKind.decode .f32 (sword m q)).isInfinity = false := by
    show (single.read (sword m q)).isInfinity = false
    by_cases hb : sword m q < 8388608
    · rw [read_single_low hb]; rfl
    · rw [read_single_high (by omega) hlt]; rfl
  rw [hi]
  rfl
theorem narrow_zero : Go.floatToFloatBits .f64 0 .f32 = some 0 := by rfl
end Go.Proofs.YtlogcnglmdpejaaGreatDoor.Hd
end
