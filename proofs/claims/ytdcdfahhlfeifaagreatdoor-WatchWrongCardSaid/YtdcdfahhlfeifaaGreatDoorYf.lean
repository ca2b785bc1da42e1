/- The texts: strings.Builder, the reference's text, value.Print, watch.Print. -/
import Derived.Shelf.Strings.BuilderK
import Derived.Shelf.LaysM
import Derived.Shelf.Strconv.Itoa3
import Derived.Test.YtdcdfahhlfeifaaGreatDoorProg
import Derived.Test.YtdcdfahhlfeifaaGreatDoorYb
import Derived.Lib.AppendIntMem
import Derived.Test.YtdcdfahhlfeifaaGreatDoorYa
import Derived.Test.YtdcdfahhlfeifaaGreatDoorYc
import Derived.Test.YtdcdfahhlfeifaaGreatDoorYe
section
namespace Go.Proofs
open Go.Shelf
def Tryz.lays169_ren : Go.Shelf.Ren := ⟨fun | 169 => 21 | n => n, fun | 70 => 43 | 9 => 9 | 0 => 0 | 72 => 46 | 37 => 44 | 127 => 74 | 3 => 3 | 5 => 5 | n => n, fun | n => n⟩
theorem Tryz.lays169 : Go.Proofs.Lays.n169 Tryz.prog Tryz.lays169_ren := {
  mixed := by kernel_rfl
  f169 := Tryz.func21.trans (congrArg some (by kernel_rfl))
  t0 := Tryz.underlying0
  a0 := Tryz.isAgg0
  z0 := Tryz.sizeOf0
  v0 := Tryz.zeroValue0
  t3 := Tryz.underlying3
  a3 := Tryz.isAgg3
  z3 := Tryz.sizeOf3
  v3 := Tryz.zeroValue3
  t9 := Tryz.underlying9
  a9 := Tryz.isAgg9
  z9 := Tryz.sizeOf9
  v9 := Tryz.zeroValue9
  t37 := Tryz.underlying44
  a37 := Tryz.isAgg44
  z37 := Tryz.sizeOf44
  v37 := Tryz.zeroValue44
  t70 := Tryz.underlying43
  a70 := Tryz.isAgg43
  z70 := Tryz.sizeOf43
  v70 := Tryz.zeroValue43
  t72 := Tryz.underlying46
  a72 := Tryz.isAgg46
  z72 := Tryz.sizeOf46
  v72 := Tryz.zeroValue46
  t127 := Tryz.underlying74
  a127 := Tryz.isAgg74
  z127 := Tryz.sizeOf74
  v127 := Tryz.zeroValue74 }
theorem Tryz.Builder_Extra_169 : Builder.Extra Tryz.prog Tryz.lays169_ren := {
  sizeBuilder := by kernel_rfl
  liesBuilder := by kernel_rfl
  t5 := Tryz.underlying5
  a5 := Tryz.isAgg5
  z5 := Tryz.sizeOf5
  v5 := Tryz.zeroValue5
  infoByte := by kernel_rfl
  cellsByte := by kernel_rfl
  sizeByte := by kernel_rfl
  neB5 := by decide }
open Go.RowKit in
theorem Tryz.Builder_String_k (B b : Nat) (l : List UInt8) (w : World) (h : Lib.IsBuilderF 46 5 B b (Lib.byteCells l) w) (h0 : l ≠ []) :
    Calls Tryz.prog 21 #[.pointer (some ⟨b, 0, none⟩)] w fun e w' => e = .returned (.string ⟨l.toArray⟩) ∧ (Lib.IsBuilderF 46 5 B b (Lib.byteCells l) w' ∧ Below B w w' ∧ Lib.OthersKept 5 (some b) w w') := Any.Builder_String_k Tryz.lays169 Tryz.Builder_Extra_169 B b l w h h0
open Go.RowKit in
theorem Tryz.Builder_String_empty_k (B b : Nat) (w : World) (h : Lib.IsBuilderF 46 5 B b [] w) (hBw : B ≤ w.heap.size) :
    Calls Tryz.prog 21 #[.pointer (some ⟨b, 0, none⟩)] w fun e w' => e = .returned (.string ⟨#[]⟩) ∧ (Lib.IsBuilderF 46 5 B b [] w' ∧ Below B w w' ∧ Lib.OthersKept 5 (some b) w w') := Any.Builder_String_empty_k Tryz.lays169 Tryz.Builder_Extra_169 B b w h hBw
open Go.RowKit in
theorem Tryz.Builder_String_any_k (B b : Nat) (l : List UInt8) (w : World) (h : Lib.IsBuilderF 46 5 B b (Lib.byteCells l) w) (hBw : B ≤ w.heap.size) :
    Calls Tryz.prog 21 #[.pointer (some ⟨b, 0, none⟩)] w fun e w' => e = .returned (.string ⟨l.toArray⟩) ∧ (Lib.IsBuilderF 46 5 B b (Lib.byteCells l) w' ∧ Below B w w' ∧ Lib.OthersKept 5 (some b) w w') := Any.Builder_String_any_k Tryz.lays169 Tryz.Builder_Extra_169 B b l w h hBw
def Tryz.laysM246_ren : Go.Shelf.Ren := ⟨fun | 246 => 77 | 283 => 90 | 284 => 91 | 285 => 92 | 286 => 93 | 129 => 119 | 317 => 118 | 318 => 120 | 319 => 121 | 320 => 122 | 337 => 143 | 338 => 144 | n => n, fun | 2 => 2 | 3 => 3 | 9 => 9 | 4 => 4 | 171 => 150 | 0 => 0 | 53 => 151 | 37 => 44 | 5 => 5 | 173 => 154 | 212 => 200 | 51 => 201 | 20 => 20 | 213 => 202 | 46 => 204 | 232 => 257 | 233 => 258 | n => n, fun | 17 => 0 | 18 => 1 | 19 => 2 | n => n⟩
theorem Tryz.laysM246 : Go.Proofs.LaysM.n246 Tryz.prog Tryz.laysM246_ren := {
  mixed := by kernel_rfl
  f129 := Tryz.func119.trans (congrArg some (by kernel_rfl))
  f246 := Tryz.func77.trans (congrArg some (by kernel_rfl))
  f283 := Tryz.func90.trans (congrArg some (by kernel_rfl))
  f284 := Tryz.func91.trans (congrArg some (by kernel_rfl))
  f285 := Tryz.func92.trans (congrArg some (by kernel_rfl))
  f286 := Tryz.func93.trans (congrArg some (by kernel_rfl))
  f317 := Tryz.func118.trans (congrArg some (by kernel_rfl))
  f318 := Tryz.func120.trans (congrArg some (by kernel_rfl))
  f319 := Tryz.func121.trans (congrArg some (by kernel_rfl))
  f320 := Tryz.func122.trans (congrArg some (by kernel_rfl))
  f337 := Tryz.func143.trans (congrArg some (by kernel_rfl))
  f338 := Tryz.func144.trans (congrArg some (by kernel_rfl))
  t0 := Tryz.underlying0
  a0 := Tryz.isAgg0
  z0 := Tryz.sizeOf0
  v0 := Tryz.zeroValue0
  t2 := Tryz.underlying2
  a2 := Tryz.isAgg2
  z2 := Tryz.sizeOf2
  v2 := Tryz.zeroValue2
  t3 := Tryz.underlying3
  a3 := Tryz.isAgg3
  z3 := Tryz.sizeOf3
  v3 := Tryz.zeroValue3
  t4 := Tryz.underlying4
  a4 := Tryz.isAgg4
  z4 := Tryz.sizeOf4
  v4 := Tryz.zeroValue4
  t5 := Tryz.underlying5
  a5 := Tryz.isAgg5
  z5 := Tryz.sizeOf5
  v5 := Tryz.zeroValue5
  t9 := Tryz.underlying9
  a9 := Tryz.isAgg9
  z9 := Tryz.sizeOf9
  v9 := Tryz.zeroValue9
  t20 := Tryz.underlying20
  a20 := Tryz.isAgg20
  z20 := Tryz.sizeOf20
  v20 := Tryz.zeroValue20
  t37 := Tryz.underlying44
  a37 := Tryz.isAgg44
  z37 := Tryz.sizeOf44
  v37 := Tryz.zeroValue44
  t46 := Tryz.underlying204
  a46 := Tryz.isAgg204
  z46 := Tryz.sizeOf204
  v46 := Tryz.zeroValue204
  t51 := Tryz.underlying201
  a51 := Tryz.isAgg201
  z51 := Tryz.sizeOf201
  v51 := Tryz.zeroValue201
  t53 := Tryz.underlying151
  a53 := Tryz.isAgg151
  z53 := Tryz.sizeOf151
  v53 := Tryz.zeroValue151
  t171 := Tryz.underlying150
  a171 := Tryz.isAgg150
  z171 := Tryz.sizeOf150
  v171 := Tryz.zeroValue150
  t173 := Tryz.underlying154
  a173 := Tryz.isAgg154
  z173 := Tryz.sizeOf154
  v173 := Tryz.zeroValue154
  t212 := Tryz.underlying200
  a212 := Tryz.isAgg200
  z212 := Tryz.sizeOf200
  v212 := Tryz.zeroValue200
  t213 := Tryz.underlying202
  a213 := Tryz.isAgg202
  z213 := Tryz.sizeOf202
  t232 := Tryz.underlying257
  a232 := Tryz.isAgg257
  z232 := Tryz.sizeOf257
  v232 := Tryz.zeroValue257
  t233 := Tryz.underlying258
  a233 := Tryz.isAgg258
  z233 := Tryz.sizeOf258
  v233 := Tryz.zeroValue258
  g17 := by kernel_rfl
  g18 := by kernel_rfl
  g19 := by kernel_rfl
  i0 := by kernel_rfl
  i2 := by kernel_rfl
  i3 := by kernel_rfl
  i4 := by kernel_rfl
  i5 := by kernel_rfl
  i9 := by kernel_rfl
  i20 := by kernel_rfl
  i37 := by kernel_rfl
  i46 := by kernel_rfl
  i51 := by kernel_rfl
  i53 := by kernel_rfl
  i171 := by kernel_rfl
  i173 := by kernel_rfl
  i212 := by kernel_rfl
  i232 := by kernel_rfl
  i233 := by kernel_rfl
  m17 := by kernel_rfl
  m18 := by kernel_rfl
  m19 := by kernel_rfl }
open Go.RowKit Go.Sort Go.Lib in
theorem Tryz.internal_strconv_FormatInt_10 (n : Int) (h0 : -9223372036854775808 ≤ n) (h1 : n ≤ 9223372036854775807) (w : World) (htab : Lib.TabIs Tryz.prog w "internal/strconv.uint64pow10" .u64 Lib.pow10Tab) :
    Calls Tryz.prog 77 #[.int .i64 n, .int .i64 10] w fun e w' => e = .returned (.string ⟨(Lib.itoa n).toArray⟩) ∧ ∃ k os, w' = grow (w.drewN k) os := Any.internal_strconv_FormatInt_10 Tryz.laysM246 n h0 h1 w htab
def Tryz.lays246_ren : Go.Shelf.Ren := ⟨fun | 246 => 77 | 283 => 90 | 284 => 91 | 285 => 92 | 286 => 93 | 129 => 119 | 317 => 118 | 318 => 120 | 319 => 121 | 320 => 122 | 337 => 143 | 338 => 144 | n => n, fun | 2 => 2 | 3 => 3 | 9 => 9 | 4 => 4 | 171 => 150 | 0 => 0 | 53 => 151 | 37 => 44 | 5 => 5 | 173 => 154 | 212 => 200 | 51 => 201 | 20 => 20 | 213 => 202 | 46 => 204 | 232 => 257 | 233 => 258 | n => n, fun | 17 => 0 | 18 => 1 | 19 => 2 | n => n⟩
theorem Tryz.lays246 : Go.Proofs.Lays.n246 Tryz.prog Tryz.lays246_ren := {
  mixed := by kernel_rfl
  f129 := Tryz.func119.trans (congrArg some (by kernel_rfl))
  f246 := Tryz.func77.trans (congrArg some (by kernel_rfl))
  f283 := Tryz.func90.trans (congrArg some (by kernel_rfl))
  f284 := Tryz.func91.trans (congrArg some (by kernel_rfl))
  f285 := Tryz.func92.trans (congrArg some (by kernel_rfl))
  f286 := Tryz.func93.trans (congrArg some (by kernel_rfl))
  f317 := Tryz.func118.trans (congrArg some (by kernel_rfl))
  f318 := Tryz.func120.trans (congrArg some (by kernel_rfl))
  f319 := Tryz.func121.trans (congrArg some (by kernel_rfl))
  f320 := Tryz.func122.trans (congrArg some (by kernel_rfl))
  f337 := Tryz.func143.trans (congrArg some (by kernel_rfl))
  f338 := Tryz.func144.trans (congrArg some (by kernel_rfl))
  t0 := Tryz.underlying0
  a0 := Tryz.isAgg0
  z0 := Tryz.sizeOf0
  v0 := Tryz.zeroValue0
  t2 := Tryz.underlying2
  a2 := Tryz.isAgg2
  z2 := Tryz.sizeOf2
  v2 := Tryz.zeroValue2
  t3 := Tryz.underlying3
  a3 := Tryz.isAgg3
  z3 := Tryz.sizeOf3
  v3 := Tryz.zeroValue3
  t4 := Tryz.underlying4
  a4 := Tryz.isAgg4
  z4 := Tryz.sizeOf4
  v4 := Tryz.zeroValue4
  t5 := Tryz.underlying5
  a5 := Tryz.isAgg5
  z5 := Tryz.sizeOf5
  v5 := Tryz.zeroValue5
  t9 := Tryz.underlying9
  a9 := Tryz.isAgg9
  z9 := Tryz.sizeOf9
  v9 := Tryz.zeroValue9
  t20 := Tryz.underlying20
  a20 := Tryz.isAgg20
  z20 := Tryz.sizeOf20
  v20 := Tryz.zeroValue20
  t37 := Tryz.underlying44
  a37 := Tryz.isAgg44
  z37 := Tryz.sizeOf44
  v37 := Tryz.zeroValue44
  t46 := Tryz.underlying204
  a46 := Tryz.isAgg204
  z46 := Tryz.sizeOf204
  v46 := Tryz.zeroValue204
  t51 := Tryz.underlying201
  a51 := Tryz.isAgg201
  z51 := Tryz.sizeOf201
  v51 := Tryz.zeroValue201
  t53 := Tryz.underlying151
  a53 := Tryz.isAgg151
  z53 := Tryz.sizeOf151
  v53 := Tryz.zeroValue151
  t171 := Tryz.underlying150
  a171 := Tryz.isAgg150
  z171 := Tryz.sizeOf150
  v171 := Tryz.zeroValue150
  t173 := Tryz.underlying154
  a173 := Tryz.isAgg154
  z173 := Tryz.sizeOf154
  v173 := Tryz.zeroValue154
  t212 := Tryz.underlying200
  a212 := Tryz.isAgg200
  z212 := Tryz.sizeOf200
  v212 := Tryz.zeroValue200
  t213 := Tryz.underlying202
  a213 := Tryz.isAgg202
  z213 := Tryz.sizeOf202
  t232 := Tryz.underlying257
  a232 := Tryz.isAgg257
  z232 := Tryz.sizeOf257
  v232 := Tryz.zeroValue257
  t233 := Tryz.underlying258
  a233 := Tryz.isAgg258
  z233 := Tryz.sizeOf258
  v233 := Tryz.zeroValue258
  g17 := by kernel_rfl
  g18 := by kernel_rfl
  g19 := by kernel_rfl }
open Go.RowKit Go.Sort Go.Lib in
theorem Tryz.internal_strconv_FormatInt_10_small (i : Nat) (hi : i < 100) (w : World) :
    Calls Tryz.prog 77 #[.int .i64 i, .int .i64 10] w fun e w' => e = .returned (.string ⟨(Lib.decDigits i).toArray⟩) ∧ w' = w := Any.internal_strconv_FormatInt_10_small Tryz.lays246 i hi w
def Tryz.laysM243_ren : Go.Shelf.Ren := ⟨fun | 243 => 52 | 246 => 77 | 283 => 90 | 284 => 91 | 285 => 92 | 286 => 93 | 129 => 119 | 317 => 118 | 318 => 120 | 319 => 121 | 320 => 122 | 337 => 143 | 338 => 144 | n => n, fun | 3 => 3 | 9 => 9 | 2 => 2 | 4 => 4 | 171 => 150 | 0 => 0 | 53 => 151 | 37 => 44 | 5 => 5 | 173 => 154 | 212 => 200 | 51 => 201 | 20 => 20 | 213 => 202 | 46 => 204 | 232 => 257 | 233 => 258 | n => n, fun | 17 => 0 | 18 => 1 | 19 => 2 | n => n⟩
theorem Tryz.laysM243 : Go.Proofs.LaysM.n243 Tryz.prog Tryz.laysM243_ren := {
  mixed := by kernel_rfl
  f129 := Tryz.func119.trans (congrArg some (by kernel_rfl))
  f243 := Tryz.func52.trans (congrArg some (by kernel_rfl))
  f246 := Tryz.func77.trans (congrArg some (by kernel_rfl))
  f283 := Tryz.func90.trans (congrArg some (by kernel_rfl))
  f284 := Tryz.func91.trans (congrArg some (by kernel_rfl))
  f285 := Tryz.func92.trans (congrArg some (by kernel_rfl))
  f286 := Tryz.func93.trans (congrArg some (by kernel_rfl))
  f317 := Tryz.func118.trans (congrArg some (by kernel_rfl))
  f318 := Tryz.func120.trans (congrArg some (by kernel_rfl))
  f319 := Tryz.func121.trans (congrArg some (by kernel_rfl))
  f320 := Tryz.func122.trans (congrArg some (by kernel_rfl))
  f337 := Tryz.func143.trans (congrArg some (by kernel_rfl))
  f338 := Tryz.func144.trans (congrArg some (by kernel_rfl))
  t0 := Tryz.underlying0
  a0 := Tryz.isAgg0
  z0 := Tryz.sizeOf0
  v0 := Tryz.zeroValue0
  t2 := Tryz.underlying2
  a2 := Tryz.isAgg2
  z2 := Tryz.sizeOf2
  v2 := Tryz.zeroValue2
  t3 := Tryz.underlying3
  a3 := Tryz.isAgg3
  z3 := Tryz.sizeOf3
  v3 := Tryz.zeroValue3
  t4 := Tryz.underlying4
  a4 := Tryz.isAgg4
  z4 := Tryz.sizeOf4
  v4 := Tryz.zeroValue4
  t5 := Tryz.underlying5
  a5 := Tryz.isAgg5
  z5 := Tryz.sizeOf5
  v5 := Tryz.zeroValue5
  t9 := Tryz.underlying9
  a9 := Tryz.isAgg9
  z9 := Tryz.sizeOf9
  v9 := Tryz.zeroValue9
  t20 := Tryz.underlying20
  a20 := Tryz.isAgg20
  z20 := Tryz.sizeOf20
  v20 := Tryz.zeroValue20
  t37 := Tryz.underlying44
  a37 := Tryz.isAgg44
  z37 := Tryz.sizeOf44
  v37 := Tryz.zeroValue44
  t46 := Tryz.underlying204
  a46 := Tryz.isAgg204
  z46 := Tryz.sizeOf204
  v46 := Tryz.zeroValue204
  t51 := Tryz.underlying201
  a51 := Tryz.isAgg201
  z51 := Tryz.sizeOf201
  v51 := Tryz.zeroValue201
  t53 := Tryz.underlying151
  a53 := Tryz.isAgg151
  z53 := Tryz.sizeOf151
  v53 := Tryz.zeroValue151
  t171 := Tryz.underlying150
  a171 := Tryz.isAgg150
  z171 := Tryz.sizeOf150
  v171 := Tryz.zeroValue150
  t173 := Tryz.underlying154
  a173 := Tryz.isAgg154
  z173 := Tryz.sizeOf154
  v173 := Tryz.zeroValue154
  t212 := Tryz.underlying200
  a212 := Tryz.isAgg200
  z212 := Tryz.sizeOf200
  v212 := Tryz.zeroValue200
  t213 := Tryz.underlying202
  a213 := Tryz.isAgg202
  z213 := Tryz.sizeOf202
  t232 := Tryz.underlying257
  a232 := Tryz.isAgg257
  z232 := Tryz.sizeOf257
  v232 := Tryz.zeroValue257
  t233 := Tryz.underlying258
  a233 := Tryz.isAgg258
  z233 := Tryz.sizeOf258
  v233 := Tryz.zeroValue258
  g17 := by kernel_rfl
  g18 := by kernel_rfl
  g19 := by kernel_rfl
  i0 := by kernel_rfl
  i2 := by kernel_rfl
  i3 := by kernel_rfl
  i4 := by kernel_rfl
  i5 := by kernel_rfl
  i9 := by kernel_rfl
  i20 := by kernel_rfl
  i37 := by kernel_rfl
  i46 := by kernel_rfl
  i51 := by kernel_rfl
  i53 := by kernel_rfl
  i171 := by kernel_rfl
  i173 := by kernel_rfl
  i212 := by kernel_rfl
  i232 := by kernel_rfl
  i233 := by kernel_rfl
  m17 := by kernel_rfl
  m18 := by kernel_rfl
  m19 := by kernel_rfl }
open Go.RowKit Go.Sort Go.Lib in
theorem Tryz.internal_strconv_Itoa (n : Int) (h0 : -9223372036854775808 ≤ n) (h1 : n ≤ 9223372036854775807) (w : World) (htab : Lib.TabIs Tryz.prog w "internal/strconv.uint64pow10" .u64 Lib.pow10Tab) :
    Calls Tryz.prog 52 #[.int .i64 n] w fun e w' => e = .returned (.string ⟨(Lib.itoa n).toArray⟩) ∧ ∃ k os, w' = grow (w.drewN k) os := Any.internal_strconv_Itoa Tryz.laysM243 n h0 h1 w htab
def Tryz.lays243_ren : Go.Shelf.Ren := ⟨fun | 243 => 52 | 246 => 77 | 283 => 90 | 284 => 91 | 285 => 92 | 286 => 93 | 129 => 119 | 317 => 118 | 318 => 120 | 319 => 121 | 320 => 122 | 337 => 143 | 338 => 144 | n => n, fun | 3 => 3 | 9 => 9 | 2 => 2 | 4 => 4 | 171 => 150 | 0 => 0 | 53 => 151 | 37 => 44 | 5 => 5 | 173 => 154 | 212 => 200 | 51 => 201 | 20 => 20 | 213 => 202 | 46 => 204 | 232 => 257 | 233 => 258 | n => n, fun | 17 => 0 | 18 => 1 | 19 => 2 | n => n⟩
theorem Tryz.lays243 : Go.Proofs.Lays.n243 Tryz.prog Tryz.lays243_ren := {
  mixed := by kernel_rfl
  f129 := Tryz.func119.trans (congrArg some (by kernel_rfl))
  f243 := Tryz.func52.trans (congrArg some (by kernel_rfl))
  f246 := Tryz.func77.trans (congrArg some (by kernel_rfl))
  f283 := Tryz.func90.trans (congrArg some (by kernel_rfl))
  f284 := Tryz.func91.trans (congrArg some (by kernel_rfl))
  f285 := Tryz.func92.trans (congrArg some (by kernel_rfl))
  f286 := Tryz.func93.trans (congrArg some (by kernel_rfl))
  f317 := Tryz.func118.trans (congrArg some (by kernel_rfl))
  f318 := Tryz.func120.trans (congrArg some (by kernel_rfl))
  f319 := Tryz.func121.trans (congrArg some (by kernel_rfl))
  f320 := Tryz.func122.trans (congrArg some (by kernel_rfl))
  f337 := Tryz.func143.trans (congrArg some (by kernel_rfl))
  f338 := Tryz.func144.trans (congrArg some (by kernel_rfl))
  t0 := Tryz.underlying0
  a0 := Tryz.isAgg0
  z0 := Tryz.sizeOf0
  v0 := Tryz.zeroValue0
  t2 := Tryz.underlying2
  a2 := Tryz.isAgg2
  z2 := Tryz.sizeOf2
  v2 := Tryz.zeroValue2
  t3 := Tryz.underlying3
  a3 := Tryz.isAgg3
  z3 := Tryz.sizeOf3
  v3 := Tryz.zeroValue3
  t4 := Tryz.underlying4
  a4 := Tryz.isAgg4
  z4 := Tryz.sizeOf4
  v4 := Tryz.zeroValue4
  t5 := Tryz.underlying5
  a5 := Tryz.isAgg5
  z5 := Tryz.sizeOf5
  v5 := Tryz.zeroValue5
  t9 := Tryz.underlying9
  a9 := Tryz.isAgg9
  z9 := Tryz.sizeOf9
  v9 := Tryz.zeroValue9
  t20 := Tryz.underlying20
  a20 := Tryz.isAgg20
  z20 := Tryz.sizeOf20
  v20 := Tryz.zeroValue20
  t37 := Tryz.underlying44
  a37 := Tryz.isAgg44
  z37 := Tryz.sizeOf44
  v37 := Tryz.zeroValue44
  t46 := Tryz.underlying204
  a46 := Tryz.isAgg204
  z46 := Tryz.sizeOf204
  v46 := Tryz.zeroValue204
  t51 := Tryz.underlying201
  a51 := Tryz.isAgg201
  z51 := Tryz.sizeOf201
  v51 := Tryz.zeroValue201
  t53 := Tryz.underlying151
  a53 := Tryz.isAgg151
  z53 := Tryz.sizeOf151
  v53 := Tryz.zeroValue151
  t171 := Tryz.underlying150
  a171 := Tryz.isAgg150
  z171 := Tryz.sizeOf150
  v171 := Tryz.zeroValue150
  t173 := Tryz.underlying154
  a173 := Tryz.isAgg154
  z173 := Tryz.sizeOf154
  v173 := Tryz.zeroValue154
  t212 := Tryz.underlying200
  a212 := Tryz.isAgg200
  z212 := Tryz.sizeOf200
  v212 := Tryz.zeroValue200
  t213 := Tryz.underlying202
  a213 := Tryz.isAgg202
  z213 := Tryz.sizeOf202
  t232 := Tryz.underlying257
  a232 := Tryz.isAgg257
  z232 := Tryz.sizeOf257
  v232 := Tryz.zeroValue257
  t233 := Tryz.underlying258
  a233 := Tryz.isAgg258
  z233 := Tryz.sizeOf258
  v233 := Tryz.zeroValue258
  g17 := by kernel_rfl
  g18 := by kernel_rfl
  g19 := by kernel_rfl }
open Go.RowKit Go.Sort Go.Lib in
theorem Tryz.internal_strconv_Itoa_small (i : Nat) (hi : i < 100) (w : World) :
    Calls Tryz.prog 52 #[.int .i64 i] w fun e w' => e = .returned (.string ⟨(Lib.decDigits i).toArray⟩) ∧ w' = w := Any.internal_strconv_Itoa_small Tryz.lays243 i hi w
def Tryz.laysM171_ren : Go.Shelf.Ren := ⟨fun | 171 => 32 | 243 => 52 | 246 => 77 | 283 => 90 | 284 => 91 | 285 => 92 | 286 => 93 | 129 => 119 | 317 => 118 | 318 => 120 | 319 => 121 | 320 => 122 | 337 => 143 | 338 => 144 | n => n, fun | 3 => 3 | 9 => 9 | 2 => 2 | 4 => 4 | 171 => 150 | 0 => 0 | 53 => 151 | 37 => 44 | 5 => 5 | 173 => 154 | 212 => 200 | 51 => 201 | 20 => 20 | 213 => 202 | 46 => 204 | 232 => 257 | 233 => 258 | n => n, fun | 17 => 0 | 18 => 1 | 19 => 2 | n => n⟩
theorem Tryz.laysM171 : Go.Proofs.LaysM.n171 Tryz.prog Tryz.laysM171_ren := {
  mixed := by kernel_rfl
  f129 := Tryz.func119.trans (congrArg some (by kernel_rfl))
  f171 := Tryz.func32.trans (congrArg some (by kernel_rfl))
  f243 := Tryz.func52.trans (congrArg some (by kernel_rfl))
  f246 := Tryz.func77.trans (congrArg some (by kernel_rfl))
  f283 := Tryz.func90.trans (congrArg some (by kernel_rfl))
  f284 := Tryz.func91.trans (congrArg some (by kernel_rfl))
  f285 := Tryz.func92.trans (congrArg some (by kernel_rfl))
  f286 := Tryz.func93.trans (congrArg some (by kernel_rfl))
  f317 := Tryz.func118.trans (congrArg some (by kernel_rfl))
  f318 := Tryz.func120.trans (congrArg some (by kernel_rfl))
  f319 := Tryz.func121.trans (congrArg some (by kernel_rfl))
  f320 := Tryz.func122.trans (congrArg some (by kernel_rfl))
  f337 := Tryz.func143.trans (congrArg some (by kernel_rfl))
  f338 := Tryz.func144.trans (congrArg some (by kernel_rfl))
  t0 := Tryz.underlying0
  a0 := Tryz.isAgg0
  z0 := Tryz.sizeOf0
  v0 := Tryz.zeroValue0
  t2 := Tryz.underlying2
  a2 := Tryz.isAgg2
  z2 := Tryz.sizeOf2
  v2 := Tryz.zeroValue2
  t3 := Tryz.underlying3
  a3 := Tryz.isAgg3
  z3 := Tryz.sizeOf3
  v3 := Tryz.zeroValue3
  t4 := Tryz.underlying4
  a4 := Tryz.isAgg4
  z4 := Tryz.sizeOf4
  v4 := Tryz.zeroValue4
  t5 := Tryz.underlying5
  a5 := Tryz.isAgg5
  z5 := Tryz.sizeOf5
  v5 := Tryz.zeroValue5
  t9 := Tryz.underlying9
  a9 := Tryz.isAgg9
  z9 := Tryz.sizeOf9
  v9 := Tryz.zeroValue9
  t20 := Tryz.underlying20
  a20 := Tryz.isAgg20
  z20 := Tryz.sizeOf20
  v20 := Tryz.zeroValue20
  t37 := Tryz.underlying44
  a37 := Tryz.isAgg44
  z37 := Tryz.sizeOf44
  v37 := Tryz.zeroValue44
  t46 := Tryz.underlying204
  a46 := Tryz.isAgg204
  z46 := Tryz.sizeOf204
  v46 := Tryz.zeroValue204
  t51 := Tryz.underlying201
  a51 := Tryz.isAgg201
  z51 := Tryz.sizeOf201
  v51 := Tryz.zeroValue201
  t53 := Tryz.underlying151
  a53 := Tryz.isAgg151
  z53 := Tryz.sizeOf151
  v53 := Tryz.zeroValue151
  t171 := Tryz.underlying150
  a171 := Tryz.isAgg150
  z171 := Tryz.sizeOf150
  v171 := Tryz.zeroValue150
  t173 := Tryz.underlying154
  a173 := Tryz.isAgg154
  z173 := Tryz.sizeOf154
  v173 := Tryz.zeroValue154
  t212 := Tryz.underlying200
  a212 := Tryz.isAgg200
  z212 := Tryz.sizeOf200
  v212 := Tryz.zeroValue200
  t213 := Tryz.underlying202
  a213 := Tryz.isAgg202
  z213 := Tryz.sizeOf202
  t232 := Tryz.underlying257
  a232 := Tryz.isAgg257
  z232 := Tryz.sizeOf257
  v232 := Tryz.zeroValue257
  t233 := Tryz.underlying258
  a233 := Tryz.isAgg258
  z233 := Tryz.sizeOf258
  v233 := Tryz.zeroValue258
  g17 := by kernel_rfl
  g18 := by kernel_rfl
  g19 := by kernel_rfl
  i0 := by kernel_rfl
  i2 := by kernel_rfl
  i3 := by kernel_rfl
  i4 := by kernel_rfl
  i5 := by kernel_rfl
  i9 := by kernel_rfl
  i20 := by kernel_rfl
  i37 := by kernel_rfl
  i46 := by kernel_rfl
  i51 := by kernel_rfl
  i53 := by kernel_rfl
  i171 := by kernel_rfl
  i173 := by kernel_rfl
  i212 := by kernel_rfl
  i232 := by kernel_rfl
  i233 := by kernel_rfl
  m17 := by kernel_rfl
  m18 := by kernel_rfl
  m19 := by kernel_rfl }
open Go.RowKit Go.Sort Go.Lib in
theorem Tryz.strconv_Itoa (n : Int) (h0 : -9223372036854775808 ≤ n) (h1 : n ≤ 9223372036854775807) (w : World) (htab : Lib.TabIs Tryz.prog w "internal/strconv.uint64pow10" .u64 Lib.pow10Tab) :
    Calls Tryz.prog 32 #[.int .i64 n] w fun e w' => e = .returned (.string ⟨(Lib.itoa n).toArray⟩) ∧ ∃ k os, w' = grow (w.drewN k) os := Any.strconv_Itoa Tryz.laysM171 n h0 h1 w htab
def Tryz.lays171_ren : Go.Shelf.Ren := ⟨fun | 171 => 32 | 243 => 52 | 246 => 77 | 283 => 90 | 284 => 91 | 285 => 92 | 286 => 93 | 129 => 119 | 317 => 118 | 318 => 120 | 319 => 121 | 320 => 122 | 337 => 143 | 338 => 144 | n => n, fun | 3 => 3 | 9 => 9 | 2 => 2 | 4 => 4 | 171 => 150 | 0 => 0 | 53 => 151 | 37 => 44 | 5 => 5 | 173 => 154 | 212 => 200 | 51 => 201 | 20 => 20 | 213 => 202 | 46 => 204 | 232 => 257 | 233 => 258 | n => n, fun | 17 => 0 | 18 => 1 | 19 => 2 | n => n⟩
theorem Tryz.lays171 : Go.Proofs.Lays.n171 Tryz.prog Tryz.lays171_ren := {
  mixed := by kernel_rfl
  f129 := Tryz.func119.trans (congrArg some (by kernel_rfl))
  f171 := Tryz.func32.trans (congrArg some (by kernel_rfl))
  f243 := Tryz.func52.trans (congrArg some (by kernel_rfl))
  f246 := Tryz.func77.trans (congrArg some (by kernel_rfl))
  f283 := Tryz.func90.trans (congrArg some (by kernel_rfl))
  f284 := Tryz.func91.trans (congrArg some (by kernel_rfl))
  f285 := Tryz.func92.trans (congrArg some (by kernel_rfl))
  f286 := Tryz.func93.trans (congrArg some (by kernel_rfl))
  f317 := Tryz.func118.trans (congrArg some (by kernel_rfl))
  f318 := Tryz.func120.trans (congrArg some (by kernel_rfl))
  f319 := Tryz.func121.trans (congrArg some (by kernel_rfl))
  f320 := Tryz.func122.trans (congrArg some (by kernel_rfl))
  f337 := Tryz.func143.trans (congrArg some (by kernel_rfl))
  f338 := Tryz.func144.trans (congrArg some (by kernel_rfl))
  t0 := Tryz.underlying0
  a0 := Tryz.isAgg0
  z0 := Tryz.sizeOf0
  v0 := Tryz.zeroValue0
  t2 := Tryz.underlying2
  a2 := Tryz.isAgg2
  z2 := Tryz.sizeOf2
  v2 := Tryz.zeroValue2
  t3 := Tryz.underlying3
  a3 := Tryz.isAgg3
  z3 := Tryz.sizeOf3
  v3 := Tryz.zeroValue3
  t4 := Tryz.underlying4
  a4 := Tryz.isAgg4
  z4 := Tryz.sizeOf4
  v4 := Tryz.zeroValue4
  t5 := Tryz.underlying5
  a5 := Tryz.isAgg5
  z5 := Tryz.sizeOf5
  v5 := Tryz.zeroValue5
  t9 := Tryz.underlying9
  a9 := Tryz.isAgg9
  z9 := Tryz.sizeOf9
  v9 := Tryz.zeroValue9
  t20 := Tryz.underlying20
  a20 := Tryz.isAgg20
  z20 := Tryz.sizeOf20
  v20 := Tryz.zeroValue20
  t37 := Tryz.underlying44
  a37 := Tryz.isAgg44
  z37 := Tryz.sizeOf44
  v37 := Tryz.zeroValue44
  t46 := Tryz.underlying204
  a46 := Tryz.isAgg204
  z46 := Tryz.sizeOf204
  v46 := Tryz.zeroValue204
  t51 := Tryz.underlying201
  a51 := Tryz.isAgg201
  z51 := Tryz.sizeOf201
  v51 := Tryz.zeroValue201
  t53 := Tryz.underlying151
  a53 := Tryz.isAgg151
  z53 := Tryz.sizeOf151
  v53 := Tryz.zeroValue151
  t171 := Tryz.underlying150
  a171 := Tryz.isAgg150
  z171 := Tryz.sizeOf150
  v171 := Tryz.zeroValue150
  t173 := Tryz.underlying154
  a173 := Tryz.isAgg154
  z173 := Tryz.sizeOf154
  v173 := Tryz.zeroValue154
  t212 := Tryz.underlying200
  a212 := Tryz.isAgg200
  z212 := Tryz.sizeOf200
  v212 := Tryz.zeroValue200
  t213 := Tryz.underlying202
  a213 := Tryz.isAgg202
  z213 := Tryz.sizeOf202
  t232 := Tryz.underlying257
  a232 := Tryz.isAgg257
  z232 := Tryz.sizeOf257
  v232 := Tryz.zeroValue257
  t233 := Tryz.underlying258
  a233 := Tryz.isAgg258
  z233 := Tryz.sizeOf258
  v233 := Tryz.zeroValue258
  g17 := by kernel_rfl
  g18 := by kernel_rfl
  g19 := by kernel_rfl }
open Go.RowKit Go.Sort Go.Lib in
theorem Tryz.strconv_Itoa_small (i : Nat) (hi : i < 100) (w : World) :
    Calls Tryz.prog 32 #[.int .i64 i] w fun e w' => e = .returned (.string ⟨(Lib.decDigits i).toArray⟩) ∧ w' = w := Any.strconv_Itoa_small Tryz.lays171 i hi w
end Go.Proofs

end
section
namespace Go.Proofs.YtdcdfahhlfeifaaGreatDoor.Bd
open Go.Shelf Go.RowKit Go.Proofs
theorem sizeBuilder : (Tryz.prog.info? 46).map (·.size) = some 2 := by kernel_rfl
theorem liesBuilder : liesAt Tryz.prog Tryz.prog.depth 46 (2 / Tryz.prog.cellsOf 46) 0 46 1 = true := by kernel_rfl
theorem infoByte : (Tryz.prog.info? 5).map (fun i => (i.zero, i.size, i.bytes)) = some (some (.int .u8 0), 1, 1) := by kernel_rfl
set_option maxHeartbeats 1000000 in
set_option maxRecDepth 100000 in
theorem copy_used (b : Nat) (w : World) (h0 : w.cell? ⟨b, 0, none⟩ = some (.pointer (some ⟨b, 0, none⟩))) :
    Calls Tryz.prog 30 #[.pointer (some ⟨b, 0, none⟩)] w fun e w' => e = .returned (.tuple #[]) ∧ w' = w := by
  obtain ⟨j, hj, _⟩ := Option.map_eq_some_iff.1 sizeBuilder
  go_enter Tryz.func30, Tryz.ntmps30
  go_wp2
  rw [Lib.run_neq_ptr_same w _ Tryz.underlying43 hj]
  go_wp2
  go_end0
  exact ⟨rfl, rfl⟩
set_option maxHeartbeats 1000000 in
set_option maxRecDepth 100000 in
theorem copy_fresh (b : Nat) (w : World) (h0 : w.cell? ⟨b, 0, none⟩ = some (.pointer none)) (hsh : w.shape? b = some (46, 2)) (hfz : w.frozen? ⟨b, 0, none⟩ = false) :
    Calls Tryz.prog 30 #[.pointer (some ⟨b, 0, none⟩)] w fun e w' => e = .returned (.tuple #[]) ∧ w' = w.setCell ⟨b, 0, none⟩ (.pointer (some ⟨b, 0, none⟩)) := by
  obtain ⟨j, hj, hjs⟩ := Option.map_eq_some_iff.1 sizeBuilder
  go_enter Tryz.func30, Tryz.ntmps30
  go_wp2
  rw [Lib.run_to_unsafe w ⟨b, 0, none⟩ Tryz.underlying43 Tryz.underlying111 hj (by rw [hjs]; decide) hsh (Nat.zero_lt_succ 1)]
  simp only [Result.andThen]
  rw [Oper.upon_value]
  go_wp2
  rw [run_callFunc_extern Tryz.func50 (by kernel_rfl) (by kernel_rfl) (by kernel_rfl) (e := Extern.AbiNoEscape.same) (by kernel_rfl)]
  rw [Lib.run_noEscape]
  simp only [Result.andThen]
  rw [Oper.upon_value]
  go_wp2
  rw [Lib.run_from_unsafe w ⟨b, 0, none⟩ Tryz.underlying111 Tryz.underlying43 hj hsh liesBuilder]
  simp only [Result.andThen]
  rw [Oper.upon_value]
  go_wp2
  go_end0
  exact ⟨rfl, rfl⟩
theorem copy (B b : Nat) (bs : List Value) (w : World) (h : Lib.IsBuilderF 46 5 B b bs w) :
    Calls Tryz.prog 30 #[.pointer (some ⟨b, 0, none⟩)] w fun e w' => e = .returned (.tuple #[]) ∧ (Lib.BuilderAtF 46 5 B b (.pointer (some ⟨b, 0, none⟩)) bs w' ∧ Below B w w' ∧ Lib.OthersKept 5 (some b) w w') := by
  rcases h with h | h
  · refine (copy_fresh b w h.cell0 h.shape h.frozen0).mono ?_
    rintro e w' ⟨rfl, rfl⟩
    exact ⟨rfl, h.used _, (Below.refl B w).setCell (p := ⟨b, 0, none⟩) h.1 _, (Lib.OthersKept.refl _ _ w).setCell ⟨b, 0, none⟩ rfl _⟩
  · refine (copy_used b w h.cell0).mono ?_
    rintro e w' ⟨rfl, rfl⟩
    exact ⟨rfl, h, Below.refl B _, Lib.OthersKept.refl _ _ _⟩
set_option maxHeartbeats 2000000 in
set_option maxRecDepth 100000 in
theorem writeByte (B b : Nat) (bs : List Value) (c : Int) (w : World) (h : Lib.IsBuilderF 46 5 B b bs w) (hlen : bs.length + 1 ≤ 140737488355328) (hBw : B ≤ w.heap.size) :
    Calls Tryz.prog 76 #[.pointer (some ⟨b, 0, none⟩), .int .u8 c] w fun e w' => e = .returned .nilIface ∧ (Lib.BuilderAtF 46 5 B b (.pointer (some ⟨b, 0, none⟩)) (bs ++ [.int .u8 c]) w' ∧ Below B w w' ∧ Lib.OthersKept 5 (some b) w w') := by
  obtain ⟨i0, hi, hz0, hz1, hz2⟩ := info_parts infoByte
  go_enter Tryz.func76, Tryz.ntmps76
  go_wp2_with (go_at_call 30; refine (copy B b bs _ h).mono ?_)
  rintro e w1 ⟨rfl, h1, hb1, hk1⟩
  obtain ⟨hB, v, hbk, hown, hne⟩ := h1
  have c0 : w1.cell? ⟨b, 0, none⟩ = some (.pointer (some ⟨b, 0, none⟩)) := by rw [Lib.cell_of_heap hbk]; rfl
  have c1 : w1.cell? ⟨b, 1, none⟩ = some v := by rw [Lib.cell_of_heap hbk]; rfl
  go_wp2_with (at_builtin; refine wpList_append_ownF _ rfl _ _ 44 rfl B 5 i0 (.int .u8 0) 1 1 Tryz.underlying44 hi hz0 hz1 hz2 rfl (by decide) _ _ _ rfl (hown.alloc _) ⟨w1.heap.size, 0, none⟩ 1 1 [.int .u8 c] rfl rfl ?c1 ?c2 ?c3 ?c4 ?c5 ?_)
  case c1 =>
    intro j u hj
    match j, hj with
    | 0, hj => simp at hj; subst hj; simp [Addr.add]
  case c2 => intro u hu; simp at hu; subst hu; rfl
  case c3 => unfold maxLen; omega
  case c4 => omega
  case c5 => have := hb1.size; simp; omega
  intro v' w2 hown' hgrow _
  have hlt : b < w1.heap.size := by
    rcases Nat.lt_or_ge b w1.heap.size with h' | h'
    · exact h'
    · simp [Array.getElem?_eq_none h'] at hbk
  have hb2 : w2.heap[b]? = some (.cells #[.pointer (some ⟨b, 0, none⟩), v] 46 (0, 0)) := by
    rw [hgrow.block b (by simp; omega) (fun e => hne e.symm), Lib.alloc_old w1 _ b hlt]
    exact hbk
  have d0 : w2.cell? ⟨b, 0, none⟩ = some (.pointer (some ⟨b, 0, none⟩)) := by rw [Lib.cell_of_heap hb2]; rfl
  have d1 : w2.cell? ⟨b, 1, none⟩ = some v := by rw [Lib.cell_of_heap hb2]; rfl
  have f1 : w2.frozen? ⟨b, 1, none⟩ = false := Lib.frozen_of_heap hb2 1
  obtain ⟨g, cap, rfl⟩ : ∃ g cap, v' = .slice (some ⟨g, 0, none⟩) (bs.length + 1) cap := by
    rcases hown'.2 with ⟨_, h0⟩ | ⟨g, cap, cur, fz, hv, _⟩
    · omega
    · exact ⟨g, cap, hv⟩
  go_wp2
  go_ret
  refine ⟨rfl, ?_, ?_, ((hk1.alloc _).grown hgrow (Lib.ownsRowF_kind (hown.alloc _))).setCell ⟨b, 1, none⟩ rfl _⟩
  · exact Lib.BuilderAtF.put (T := 46) (e := 5) hB hb2 (bs' := bs ++ [.int .u8 c]) (by simpa using hown') (by decide)
  · exact ((hb1.alloc (by have := hb1.size; omega) _).grown hgrow (by have := hb1.size; simp; omega) (fun k hk => (hown.lt k hk).1)).setCell (p := ⟨b, 1, none⟩) hB _
set_option maxHeartbeats 2000000 in
set_option maxRecDepth 100000 in
theorem writeString (B b : Nat) (bs : List Value) (s : ByteArray) (w : World) (h : Lib.IsBuilderF 46 5 B b bs w) (hlen : bs.length + s.size ≤ 140737488355328) (hBw : B ≤ w.heap.size) :
    Calls Tryz.prog 18 #[.pointer (some ⟨b, 0, none⟩), .string s] w fun e w' => e = .returned (.tuple #[.int .i64 s.size, .nilIface]) ∧ (Lib.BuilderAtF 46 5 B b (.pointer (some ⟨b, 0, none⟩)) (bs ++ Lib.strCells s) w' ∧ Below B w w' ∧ Lib.OthersKept 5 (some b) w w') := by
  obtain ⟨i0, hi, hz0, hz1, hz2⟩ := info_parts infoByte
  go_enter Tryz.func18, Tryz.ntmps18
  go_wp2_with (go_at_call 30; refine (copy B b bs _ h).mono ?_)
  rintro e w1 ⟨rfl, h1, hb1, hk1⟩
  obtain ⟨hB, v, hbk, hown, hne⟩ := h1
  have c0 : w1.cell? ⟨b, 0, none⟩ = some (.pointer (some ⟨b, 0, none⟩)) := by rw [Lib.cell_of_heap hbk]; rfl
  have c1 : w1.cell? ⟨b, 1, none⟩ = some v := by rw [Lib.cell_of_heap hbk]; rfl
  go_wp2_with (at_builtin; refine Lib.wpList_append_own_stringF _ rfl _ _ 44 9 rfl B 5 i0 Tryz.underlying44 Tryz.underlying9 hi hz0 hz1 hz2 _ _ _ rfl hown s rfl ?c3 ?c4 ?c5 ?_)
  case c3 => unfold maxLen; omega
  case c4 => omega
  case c5 => have := hb1.size; omega
  intro v' w2 hown' hgrow _
  have hlt : b < w1.heap.size := by
    rcases Nat.lt_or_ge b w1.heap.size with h' | h'
    · exact h'
    · simp [Array.getElem?_eq_none h'] at hbk
  have hb2 : w2.heap[b]? = some (.cells #[.pointer (some ⟨b, 0, none⟩), v] 46 (0, 0)) := by
    rw [hgrow.block b hlt (fun e => hne e.symm)]
    exact hbk
  have d0 : w2.cell? ⟨b, 0, none⟩ = some (.pointer (some ⟨b, 0, none⟩)) := by rw [Lib.cell_of_heap hb2]; rfl
  have d1 : w2.cell? ⟨b, 1, none⟩ = some v := by rw [Lib.cell_of_heap hb2]; rfl
  have f1 : w2.frozen? ⟨b, 1, none⟩ = false := Lib.frozen_of_heap hb2 1
  obtain ⟨ao, n', cap, rfl⟩ : ∃ ao n' cap, v' = .slice ao n' cap := by
    rcases hown'.2 with ⟨hv, _⟩ | ⟨g, cap, cur, fz, hv, _⟩
    · exact ⟨_, _, _, hv⟩
    · exact ⟨_, _, _, hv⟩
  go_wp2
  go_ret2
  refine ⟨rfl, ?_, ?_, (hk1.grown hgrow (Lib.ownsRowF_kind hown)).setCell ⟨b, 1, none⟩ rfl _⟩
  · exact Lib.BuilderAtF.put (T := 46) (e := 5) hB hb2 (bs' := bs ++ Lib.strCells s) (by simpa [Lib.strCells_length] using hown') (by decide)
  · exact (hb1.grown hgrow (by have := hb1.size; omega) (fun k hk => (hown.lt k hk).1)).setCell (p := ⟨b, 1, none⟩) hB _
theorem len (B b : Nat) (bs : List Value) (w : World) (h : Lib.IsBuilderF 46 5 B b bs w) :
    Calls Tryz.prog 20 #[.pointer (some ⟨b, 0, none⟩)] w fun e w' => e = .returned (.int .i64 bs.length) ∧ w' = w := by
  obtain ⟨p, v, hbk, hown⟩ : ∃ p v, w.heap[b]? = some (.cells #[p, v] 46 (0, 0)) ∧ w.ownsRowF B 5 1 v bs.length bs := by
    rcases h with ⟨_, v, hb, ho, _⟩ | ⟨_, v, hb, ho, _⟩ <;> exact ⟨_, v, hb, ho⟩
  have c1 : w.cell? ⟨b, 1, none⟩ = some v := by rw [Lib.cell_of_heap hbk]; rfl
  obtain ⟨ao, cap, rfl⟩ : ∃ ao cap, v = .slice ao bs.length cap := by
    rcases hown.2 with ⟨hv, h0⟩ | ⟨g, cap, cur, fz, hv, _⟩
    · rw [h0]; exact ⟨_, _, hv⟩
    · exact ⟨_, _, hv⟩
  go_enter Tryz.func20, Tryz.ntmps20
  go_wp2
  go_ret
  exact ⟨rfl, rfl⟩
end Go.Proofs.YtdcdfahhlfeifaaGreatDoor.Bd

end
section
namespace Go.Proofs.YtdcdfahhlfeifaaGreatDoor.Q
open Go.RowKit Go.Proofs.YtdcdfahhlfeifaaGreatDoorW.PrintWords Go.Proofs.YtdcdfahhlfeifaaGreatDoorW.PrintLast Go.Proofs.YtdcdfahhlfeifaaGreatDoorW.PrintMore
set_option linter.unusedVariables false
def Good (n : Nat) (v : S38) : Prop := deepF n v = false ∧ rightF n v = true ∧ cntF n v ≤ 300
def TextAt (n : Nat) : Prop := ∀ (v : S38) (A3 : Option Addr) (c3 : Nat) (w : World), Kd.C k38 w A3 v.f3.length v.f3 → v.f3.length ≤ c3 → Good n v → Tab w →
    Calls Tryz.prog 24 #[val38 v A3 c3] w fun e w' => e = .returned (.string ⟨(txt n v).toArray⟩) ∧ Below w.heap.size w w'
theorem itoa_calls (n : Int) (h0 : -1000000000 ≤ n) (h1 : n ≤ 1000000000) (w : World) (ht : Tab w) :
    Calls Tryz.prog 32 #[.int .i64 n] w fun e w' => e = .returned (.string ⟨(Lib.itoa n).toArray⟩) ∧ Below w.heap.size w w' := by
  refine (Tryz.strconv_Itoa n (by omega) (by omega) w ht).mono ?_
  rintro e w' ⟨rfl, k, os, rfl⟩
  exact ⟨rfl, Lib.below_grow _ _ (Nat.le_refl _) k os⟩
set_option maxHeartbeats 8000000 in
theorem inner_calls (n : Nat) (ih : TextAt n) (v : S38) (A3 : Option Addr) (c3 : Nat) (w : World) (hr : Kd.C k38 w A3 v.f3.length v.f3) (hc : v.f3.length ≤ c3) (hg : Good n v) (ht : Tab w) :
    Calls Tryz.prog 33 #[val38 v A3 c3] w fun e w' => e = .returned (.string ⟨(inn n v).toArray⟩) ∧ Below w.heap.size w w' := by
  have hlen := txt_len n v hg.2.1 hg.1
  have hcnt := hg.2.2
  have HT := Aside0.mk (fun W (hW : Below w.heap.size w W) => ih v A3 c3 W (Kd.C_below hr hW) hc hg (ht.below hW))
  have HI := Aside0.mk (show inn n v = if v.f3.length = 0 then txt n v else 40 :: (txt n v ++ [41]) from rfl)
  clear ih hr hg ht
  generalize txt n v = t at *
  by_cases h0 : v.f3.length = 0
  · have e1 : decide (0 < v.f3.length) = false := decide_eq_false (by omega)
    have HI2 := Aside0.mk (HI.out.trans (if_pos h0))
    clear h0
    go_enter Tryz.func33, Tryz.ntmps33
    go_wp2_with (go_at_call 24; refine (HT.out _ (by (repeat (first | (with_reducible first | exact Below.refl _ _ | apply below_alloc | apply pw_below_drewN | apply below_drew1) | (with_reducible assumption))))).mono ?_; rintro e w7 ⟨rfl, hb7⟩)
    go_ret
    exact ⟨by rw [HI2.out]; rfl, below_step (by (repeat (first | (with_reducible first | exact Below.refl _ _ | apply below_alloc | apply pw_below_drewN | apply below_drew1) | (with_reducible assumption)))) hb7⟩
  · have e1 : decide (0 < v.f3.length) = true := decide_eq_true (by omega)
    have HI2 := Aside0.mk (HI.out.trans (if_neg h0))
    clear h0
    go_enter Tryz.func33, Tryz.ntmps33
    go_wp2_with (go_at_call 24; refine (HT.out _ (by (repeat (first | (with_reducible first | exact Below.refl _ _ | apply below_alloc | apply pw_below_drewN | apply below_drew1) | (with_reducible assumption))))).mono ?_; rintro e w7 ⟨rfl, hb7⟩)
    go_ret
    exact ⟨congrArg (fun s => Ending.returned (Value.string s)) (bs_ext (by rw [bs_append, bs_append, HI2.out, bs_mk, bs_mk]; rfl)), below_step (by (repeat (first | (with_reducible first | exact Below.refl _ _ | apply below_alloc | apply pw_below_drewN | apply below_drew1) | (with_reducible assumption)))) hb7⟩
theorem mem_sum_le (f : S38 → Nat) : ∀ (l : List S38) (x : S38), x ∈ l → f x ≤ (l.map f).sum
  | v :: l, x, h => by
    rcases List.mem_cons.1 h with rfl | h
    · simp
    · have := mem_sum_le f l x h
      simp; omega
theorem good_kid {n : Nat} {v x : S38} (h : Good (n + 1) v) (hx : x ∈ v.f3) : Good n x := by
  obtain ⟨h1, h2, h3⟩ := h
  simp only [rightF, Bool.and_eq_true, List.all_eq_true] at h2
  refine ⟨deepF_kids' h1 x hx, h2.2 x hx, ?_⟩
  simp only [cntF] at h3
  have : cntF n x ≤ (v.f3.map (cntF n)).sum := mem_sum_le _ _ _ hx
  omega
theorem take_flat (f : S38 → List UInt8) (l : List S38) (i : Int) (h0 : 0 ≤ i) (h : i < l.length) : (l.take (i + 1).toNat).flatMap f = (l.take i.toNat).flatMap f ++ f (rd_T38 l i) := by
  have hlt : i.toNat < l.length := by omega
  rw [show (i + 1).toNat = i.toNat + 1 by omega, List.take_succ_eq_append_getElem hlt, List.flatMap_append, show rd_T38 l i = l[i.toNat] by simp [rd_T38, List.getD, hlt]]
  simp
set_option maxHeartbeats 8000000 in
theorem text_int (n : Nat) (v : S38) (A3 : Option Addr) (c3 : Nat) (w : World) (hc : v.f3.length ≤ c3) (hg : Good (n + 1) v) (ht : Tab w) (h2 : v.f0 = 2) :
    Calls Tryz.prog 24 #[val38 v A3 c3] w fun e w' => e = .returned (.string ⟨(txt (n + 1) v).toArray⟩) ∧ Below w.heap.size w w' := by
  have hn := hg.2.1
  simp only [rightF, Bool.and_eq_true] at hn
  have hn := hn.1
  unfold nodeB at hn
  rw [if_neg (by omega), if_neg (by omega), if_pos h2] at hn
  simp only [Bool.and_eq_true, decide_eq_true_eq] at hn
  have HI := Aside0.mk (fun W (hW : Below w.heap.size w W) => itoa_calls v.f2 hn.1.2 hn.2 W (ht.below hW))
  have HT := Aside0.mk (show txt (n + 1) v = Lib.itoa v.f2 by rw [txt_succ, if_pos h2])
  have e1 : (v.f0 == 2) = true := by rw [h2]; rfl
  clear hn hg ht h2
  go_enter Tryz.func24, Tryz.ntmps24
  go_wp2_with (go_at_call 32; refine (HI.out _ (by (repeat (first | (with_reducible first | exact Below.refl _ _ | apply below_alloc | apply pw_below_drewN | apply below_drew1) | (with_reducible assumption))))).mono ?_; rintro e w7 ⟨rfl, hb7⟩)
  go_ret
  exact ⟨by rw [HT.out]; rfl, below_step (by (repeat (first | (with_reducible first | exact Below.refl _ _ | apply below_alloc | apply pw_below_drewN | apply below_drew1) | (with_reducible assumption)))) hb7⟩
set_option maxHeartbeats 8000000 in
theorem text_var (n : Nat) (v : S38) (A3 : Option Addr) (c3 : Nat) (w : World) (hc : v.f3.length ≤ c3) (hg : Good (n + 1) v) (ht : Tab w) (h3 : v.f0 = 3) :
    Calls Tryz.prog 24 #[val38 v A3 c3] w fun e w' => e = .returned (.string ⟨(txt (n + 1) v).toArray⟩) ∧ Below w.heap.size w w' := by
  have hn := hg.2.1
  simp only [rightF, Bool.and_eq_true] at hn
  have hn := hn.1
  unfold nodeB at hn
  rw [if_neg (by omega), if_neg (by omega), if_neg (by omega), if_pos h3] at hn
  simp only [Bool.and_eq_true, decide_eq_true_eq] at hn
  have HL := itoa_len v.f2 (by omega) (by omega)
  have HI := Aside0.mk (fun W (hW : Below w.heap.size w W) => itoa_calls v.f2 (by omega) (by omega) W (ht.below hW))
  have HT := Aside0.mk (show txt (n + 1) v = 95 :: Lib.itoa v.f2 by rw [txt_succ, if_neg (by omega), if_pos h3])
  have e1 : (v.f0 == 2) = false := by rw [h3]; rfl
  have e2 : (v.f0 == 3) = true := by rw [h3]; rfl
  clear hn hg ht h3
  generalize Lib.itoa v.f2 = t at *
  go_enter Tryz.func24, Tryz.ntmps24
  go_wp2_with (go_at_call 32; refine (HI.out _ (by (repeat (first | (with_reducible first | exact Below.refl _ _ | apply below_alloc | apply pw_below_drewN | apply below_drew1) | (with_reducible assumption))))).mono ?_; rintro e w7 ⟨rfl, hb7⟩)
  go_ret
  exact ⟨congrArg (fun s => Ending.returned (Value.string s)) (bs_ext (by rw [bs_append, HT.out, bs_mk, bs_mk]; rfl)), below_step (by (repeat (first | (with_reducible first | exact Below.refl _ _ | apply below_alloc | apply pw_below_drewN | apply below_drew1) | (with_reducible assumption)))) hb7⟩
set_option maxHeartbeats 8000000 in
theorem text_con (n : Nat) (ih : TextAt n) (v : S38) (A3 : Option Addr) (c3 : Nat) (w : World) (hr : Kd.C k38 w A3 v.f3.length v.f3) (hc : v.f3.length ≤ c3) (hg : Good (n + 1) v) (ht : Tab w) (h2 : v.f0 ≠ 2) (h3 : v.f0 ≠ 3) (h4 : v.f0 ≠ 4) :
    Calls Tryz.prog 24 #[val38 v A3 c3] w fun e w' => e = .returned (.string ⟨(txt (n + 1) v).toArray⟩) ∧ Below w.heap.size w w' := by
  have hlen := txt_len (n + 1) v hg.2.1 hg.1
  have hT : txt (n + 1) v = bs v.f1 ++ v.f3.flatMap fun k => 32 :: inn n k := by rw [txt_succ, if_neg h2, if_neg h3, if_neg h4]
  have hlen2 : (bs v.f1 ++ v.f3.flatMap fun k => 32 :: inn n k).length ≤ 6000 := by rw [← hT]; have := hg.2.2; omega
  have HIn := Aside0.mk (fun W (hW : Below w.heap.size w W) (x : S38) (A : Option Addr) (c : Nat) (hx : x ∈ v.f3) (hC : Kd.C k38 w A x.f3.length x.f3) (hl : x.f3.length ≤ c) => inner_calls n ih x A c W (Kd.C_below hC hW) hl (good_kid hg hx) (ht.below hW))
  have HT := Aside0.mk hT
  have HLe := Aside0.mk hlen2
  have HR := Aside0.mk hr
  have HNl := Aside0.mk (show v.f3.length ≤ 9223372036854775807 from C_len hr)
  have e1 : (v.f0 == 2) = false := by simpa using h2
  have e2 : (v.f0 == 3) = false := by simpa using h3
  have e3 : (v.f0 == 4) = false := by simpa using h4
  clear h2 h3 h4
  clear hT hlen hlen2 hr hg ht ih
  go_enter Tryz.func24, Tryz.ntmps24
  go_wp2_with fail
  go_loopg [3, 4] v.f3.length (fun gg s3 s4 wr => ∃ (acc : ByteArray) (i : Int), s3 = .string acc ∧ s4 = .int .i64 i ∧ Aside0 (0 ≤ i ∧ i ≤ v.f3.length ∧ v.f3.length - i.toNat ≤ gg) ∧ Aside0 (wr.heap[w.heap.size]? = some (.cells #[.int .i64 v.f0, .string v.f1, .int .i64 v.f2, .slice A3 v.f3.length c3] 38 (0, 0))) ∧ Below w.heap.size w wr ∧ Aside0 (bs acc = bs v.f1 ++ (v.f3.take i.toNat).flatMap fun k => 32 :: inn n k))
  case atStart => exact ⟨_, 0, rfl, rfl, ⟨by omega, by omega, by omega⟩, ⟨blk_new w _⟩, below_alloc (Below.refl _ _) _, ⟨by simp⟩⟩
  case round =>
    obtain ⟨acc, i, rfl, rfl, HI, BK, HB, HA⟩ := hrel
    have m3 : wr.cell? ⟨w.heap.size, 3, none⟩ = some (.slice A3 v.f3.length c3) := (blk_cell BK.out 3).trans rfl
    by_cases hlt : i < (v.f3.length : Int)
    · have p0 : 0 ≤ i := HI.out.1
      have d1 : decide (i < (v.f3.length : Int)) = true := decide_eq_true hlt
      have d2 : decide (0 ≤ i) = true := decide_eq_true p0
      obtain ⟨ad, A, c, e0, x0, x1, x2, x3, hl, hC⟩ := at_T38 HR.out i p0 hlt
      cases e0
      replace x0 := (HB.cell (World.block_lt_of_cell? w _ x0)).trans x0
      replace x1 := (HB.cell (World.block_lt_of_cell? w _ x1)).trans x1
      replace x2 := (HB.cell (World.block_lt_of_cell? w _ x2)).trans x2
      replace x3 := (HB.cell (World.block_lt_of_cell? w _ x3)).trans x3
      have HC := Aside0.mk hC
      have HL := Aside0.mk hl
      clear hC hl
      have HM := Aside0.mk (rd_mem v.f3 i p0 hlt)
      have HF := Aside0.mk (take_flat (fun k => 32 :: inn n k) v.f3 i p0 hlt)
      have HLT := Aside0.mk hlt
      have P0 := Aside0.mk p0
      have HW := Aside0.mk (show wrap64 (i + 1) = i + 1 by have := HNl.out; unfold wrap64; omega)
      have hz : acc.size + (1 + (inn n (rd_T38 v.f3 i)).length) ≤ 6000 := by
        have h1 := HLe.out
        have h2 := size_bs acc
        rw [HA.out] at h2
        have h3 := HF.out
        have h4 : ((v.f3.take (i + 1).toNat).flatMap fun k => 32 :: inn n k).length ≤ (v.f3.flatMap fun k => 32 :: inn n k).length := by
          conv => rhs; rw [← List.take_append_drop (i + 1).toNat v.f3, List.flatMap_append, List.length_append]
          omega
        rw [h3] at h4
        simp only [List.length_append, List.length_cons] at h1 h2 h4
        omega
      have HCa := Aside0.mk (HIn.out wr HB _ A c HM.out HC.out HL.out)
      generalize hin : inn n (rd_T38 v.f3 i) = t at HCa hz HF
      clear hin
      replace hlt := eq_true hlt
      replace p0 := eq_true p0
      go_wp2_with (go_at_call 33; refine HCa.out.mono ?_; rintro e w7 ⟨rfl, hb7⟩; have BK7 := Aside0.mk (blk_below BK.out hb7); clear m3 x0 x1 x2 x3; have HB7 := below_step HB hb7)
      go_roundg (v.f3.length - (i + 1).toNat)
      case measure => have := HI.out; have := HLT.out; have := P0.out; omega
      case rel => exact ⟨_, i + 1, rfl, by rw [HW.out], ⟨by have := P0.out; omega, by have := HLT.out; omega, by omega⟩, BK7, HB7, ⟨by rw [bs_append, bs_append, HA.out, bs_mk, HF.out, List.append_assoc]; rfl⟩⟩
    · have d1 : decide (i < (v.f3.length : Int)) = false := decide_eq_false hlt
      have HE := Aside0.mk (show bs acc = txt (n + 1) v by rw [HA.out, HT.out, List.take_of_length_le (by have := HI.out; omega)])
      clear hlt
      go_wp2
      go_ret
      exact ⟨congrArg (fun s => Ending.returned (Value.string s)) (bs_ext (by rw [HE.out, bs_mk])), HB⟩
set_option maxHeartbeats 8000000 in
theorem text_part (n : Nat) (ih : TextAt n) (v : S38) (A3 : Option Addr) (c3 : Nat) (w : World) (hr : Kd.C k38 w A3 v.f3.length v.f3) (hc : v.f3.length ≤ c3) (hg : Good (n + 1) v) (ht : Tab w) (h4 : v.f0 = 4) :
    Calls Tryz.prog 24 #[val38 v A3 c3] w fun e w' => e = .returned (.string ⟨(txt (n + 1) v).toArray⟩) ∧ Below w.heap.size w w' := by
  have hlen := txt_len (n + 1) v hg.2.1 hg.1
  have hT : txt (n + 1) v = (39 :: bs v.f1) ++ v.f3.flatMap fun k => 32 :: inn n k := by rw [txt_succ, if_neg (by omega), if_neg (by omega), if_pos h4]
  have hlen2 : ((39 :: bs v.f1) ++ v.f3.flatMap fun k => 32 :: inn n k).length ≤ 6000 := by rw [← hT]; have := hg.2.2; omega
  have HIn := Aside0.mk (fun W (hW : Below w.heap.size w W) (x : S38) (A : Option Addr) (c : Nat) (hx : x ∈ v.f3) (hC : Kd.C k38 w A x.f3.length x.f3) (hl : x.f3.length ≤ c) => inner_calls n ih x A c W (Kd.C_below hC hW) hl (good_kid hg hx) (ht.below hW))
  have HT := Aside0.mk hT
  have HLe := Aside0.mk hlen2
  have HR := Aside0.mk hr
  have HNl := Aside0.mk (show v.f3.length ≤ 9223372036854775807 from C_len hr)
  have e1 : (v.f0 == 2) = false := by rw [h4]; rfl
  have e2 : (v.f0 == 3) = false := by rw [h4]; rfl
  have e3 : (v.f0 == 4) = true := by rw [h4]; rfl
  have HLn := Aside0.mk (show v.f1.size ≤ 6000 by rw [← size_bs]; simp only [List.length_append, List.length_cons] at hlen2; omega)
  have hz0 := HLn.out
  clear h4
  clear hT hlen hlen2 hr hg ht ih
  go_enter Tryz.func24, Tryz.ntmps24
  go_wp2_with fail
  go_loopg [3, 4] v.f3.length (fun gg s3 s4 wr => ∃ (acc : ByteArray) (i : Int), s3 = .string acc ∧ s4 = .int .i64 i ∧ Aside0 (0 ≤ i ∧ i ≤ v.f3.length ∧ v.f3.length - i.toNat ≤ gg) ∧ Aside0 (wr.heap[w.heap.size]? = some (.cells #[.int .i64 v.f0, .string v.f1, .int .i64 v.f2, .slice A3 v.f3.length c3] 38 (0, 0))) ∧ Below w.heap.size w wr ∧ Aside0 (bs acc = (39 :: bs v.f1) ++ (v.f3.take i.toNat).flatMap fun k => 32 :: inn n k))
  case atStart => exact ⟨_, 0, rfl, rfl, ⟨by omega, by omega, by omega⟩, ⟨blk_new w _⟩, below_alloc (Below.refl _ _) _, ⟨by rw [bs_append]; simp [bs]⟩⟩
  case round =>
    obtain ⟨acc, i, rfl, rfl, HI, BK, HB, HA⟩ := hrel
    have m3 : wr.cell? ⟨w.heap.size, 3, none⟩ = some (.slice A3 v.f3.length c3) := (blk_cell BK.out 3).trans rfl
    by_cases hlt : i < (v.f3.length : Int)
    · have p0 : 0 ≤ i := HI.out.1
      have d1 : decide (i < (v.f3.length : Int)) = true := decide_eq_true hlt
      have d2 : decide (0 ≤ i) = true := decide_eq_true p0
      obtain ⟨ad, A, c, e0, x0, x1, x2, x3, hl, hC⟩ := at_T38 HR.out i p0 hlt
      cases e0
      replace x0 := (HB.cell (World.block_lt_of_cell? w _ x0)).trans x0
      replace x1 := (HB.cell (World.block_lt_of_cell? w _ x1)).trans x1
      replace x2 := (HB.cell (World.block_lt_of_cell? w _ x2)).trans x2
      replace x3 := (HB.cell (World.block_lt_of_cell? w _ x3)).trans x3
      have HC := Aside0.mk hC
      have HL := Aside0.mk hl
      clear hC hl
      have HM := Aside0.mk (rd_mem v.f3 i p0 hlt)
      have HF := Aside0.mk (take_flat (fun k => 32 :: inn n k) v.f3 i p0 hlt)
      have HLT := Aside0.mk hlt
      have P0 := Aside0.mk p0
      have HW := Aside0.mk (show wrap64 (i + 1) = i + 1 by have := HNl.out; unfold wrap64; omega)
      have hz : acc.size + (1 + (inn n (rd_T38 v.f3 i)).length) ≤ 6000 := by
        have h1 := HLe.out
        have h2 := size_bs acc
        rw [HA.out] at h2
        have h3 := HF.out
        have h4 : ((v.f3.take (i + 1).toNat).flatMap fun k => 32 :: inn n k).length ≤ (v.f3.flatMap fun k => 32 :: inn n k).length := by
          conv => rhs; rw [← List.take_append_drop (i + 1).toNat v.f3, List.flatMap_append, List.length_append]
          omega
        rw [h3] at h4
        simp only [List.length_append, List.length_cons] at h1 h2 h4
        omega
      have HCa := Aside0.mk (HIn.out wr HB _ A c HM.out HC.out HL.out)
      generalize hin : inn n (rd_T38 v.f3 i) = t at HCa hz HF
      clear hin
      replace hlt := eq_true hlt
      replace p0 := eq_true p0
      go_wp2_with (go_at_call 33; refine HCa.out.mono ?_; rintro e w7 ⟨rfl, hb7⟩; have BK7 := Aside0.mk (blk_below BK.out hb7); clear m3 x0 x1 x2 x3; have HB7 := below_step HB hb7)
      go_roundg (v.f3.length - (i + 1).toNat)
      case measure => have := HI.out; have := HLT.out; have := P0.out; omega
      case rel => exact ⟨_, i + 1, rfl, by rw [HW.out], ⟨by have := P0.out; omega, by have := HLT.out; omega, by omega⟩, BK7, HB7, ⟨by rw [bs_append, bs_append, HA.out, bs_mk, HF.out, List.append_assoc]; rfl⟩⟩
    · have d1 : decide (i < (v.f3.length : Int)) = false := decide_eq_false hlt
      have HE := Aside0.mk (show bs acc = txt (n + 1) v by rw [HA.out, HT.out, List.take_of_length_le (by have := HI.out; omega)])
      clear hlt
      go_wp2
      go_ret
      exact ⟨congrArg (fun s => Ending.returned (Value.string s)) (bs_ext (by rw [HE.out, bs_mk])), HB⟩
theorem text_all : ∀ n, TextAt n
  | 0 => fun v A3 c3 w _ _ hg _ => by simp [Good, deepF] at hg
  | n + 1 => fun v A3 c3 w hr hc hg ht => by
    have ih := text_all n
    by_cases h2 : v.f0 = 2
    · exact text_int n v A3 c3 w hc hg ht h2
    by_cases h3 : v.f0 = 3
    · exact text_var n v A3 c3 w hc hg ht h3
    by_cases h4 : v.f0 = 4
    · exact text_part n ih v A3 c3 w hr hc hg ht h4
    exact text_con n ih v A3 c3 w hr hc hg ht h2 h3 h4
theorem good_valid {v : S38} (h : validF v = 0) : Good 40 v := by
  unfold validF at h
  split at h
  · cases h
  · split at h
    · cases h
    · split at h
      · rename_i h1 h2 h3; exact ⟨by simpa using h1, h3, by omega⟩
      · cases h
theorem text_calls (v : S38) (A3 : Option Addr) (c3 : Nat) (r : ByteArray) (w : World) (hr : Kd.C k38 w A3 v.f3.length v.f3) (hc : v.f3.length ≤ c3) (h : textF v = some r) (ht : Tab w) :
    Calls Tryz.prog 24 #[val38 v A3 c3] w fun e w' => e = .returned (.string r) ∧ Below w.heap.size w w' := by
  unfold textF at h
  split at h
  · rename_i hv
    obtain rfl := Option.some.inj h
    exact text_all 40 v A3 c3 w hr hc (good_valid hv) ht
  · cases h
end Go.Proofs.YtdcdfahhlfeifaaGreatDoor.Q

end
section
namespace Go.Proofs.YtdcdfahhlfeifaaGreatDoor.Q
open Go.RowKit Go.Proofs.YtdcdfahhlfeifaaGreatDoorW.PrintWords Go.Proofs.YtdcdfahhlfeifaaGreatDoorW.PrintLast Go.Proofs.YtdcdfahhlfeifaaGreatDoorW.PrintMore
attribute [local go_sem] max2_int min2_int max_two min_two max_three min_three max_four min_four   -- for this text's walks alone
set_option linter.unusedVariables false
set_option linter.unusedSimpArgs false
def searchlightref08_Text.f (a0_0 : Int) (a0_1 : ByteArray) (a0_2 : Int) (l0_3 : List S38) : Option ByteArray := textF ⟨a0_0, a0_1, a0_2, l0_3⟩
theorem searchlightref08_Text.calls (a0_0 : Int) (a0_1 : ByteArray) (a0_2 : Int) (A0_3 : Option Addr) (c0_3 : Nat) (l0_3 : List (S38)) (r : ByteArray) (w : World) (hr0_3 : Kd.C k38 w A0_3 l0_3.length l0_3) (hc0_3 : l0_3.length ≤ c0_3) (h : searchlightref08_Text.f a0_0 a0_1 a0_2 l0_3 = some r) (ht : Tab w) :
    Calls Tryz.prog 24 #[.agg #[.int .i64 a0_0, .string a0_1, .int .i64 a0_2, .slice A0_3 l0_3.length c0_3]] w fun e w' => e = .returned (.string r) ∧ Below w.heap.size w w' :=
  text_calls ⟨a0_0, a0_1, a0_2, l0_3⟩ A0_3 c0_3 r w hr0_3 hc0_3 h ht
end Go.Proofs.YtdcdfahhlfeifaaGreatDoor.Q

end
section
namespace Go.Proofs.YtdcdfahhlfeifaaGreatDoor.Q
open Go.RowKit Go.Proofs.YtdcdfahhlfeifaaGreatDoorW.PrintWords Go.Proofs.YtdcdfahhlfeifaaGreatDoorW.PrintLast Go.Proofs.YtdcdfahhlfeifaaGreatDoorW.PrintMore
set_option linter.unusedVariables false
def Bu (w0 : World) (b : Nat) (l : List UInt8) (W : World) : Prop := Lib.IsBuilderF 46 5 w0.heap.size b (Lib.byteCells l) W ∧ Below w0.heap.size w0 W
theorem Bu.alloc {w0 : World} {b : Nat} {l : List UInt8} {W : World} (h : Bu w0 b l W) (o : Obj) : Bu w0 b l (W.alloc o) := ⟨h.1.alloc o, below_alloc h.2 o⟩
theorem Bu.lt {w0 : World} {b : Nat} {l : List UInt8} {W : World} (h : Bu w0 b l W) : b < W.heap.size := h.1.elim (fun x => x.lt) (fun x => x.lt)
theorem Bu.size {w0 : World} {b : Nat} {l : List UInt8} {W : World} (h : Bu w0 b l W) : w0.heap.size ≤ W.heap.size := h.2.size
theorem Bu.below {w0 : World} {b : Nat} {l : List UInt8} {W W' : World} (h : Bu w0 b l W) (hb : Below W.heap.size W W') : Bu w0 b l W' := by
  have hk : ∀ {p : Value}, Lib.BuilderAtF 46 5 w0.heap.size b p (Lib.byteCells l) W → Lib.BuilderAtF 46 5 w0.heap.size b p (Lib.byteCells l) W' := fun x => by
    have hlt := x.lt
    obtain ⟨hB, v, hv, hown, hne⟩ := x
    exact ⟨hB, v, (hb.block b hlt).trans hv, hown.kept (row := none) ⟨hb.os, hb.tape, hb.output, hb.size, fun k hk _ => hb.block k hk⟩ (Classical.em _), hne⟩
  exact ⟨h.1.elim (fun x => .inl (hk x)) (fun x => .inr (hk x)), below_step h.2 hb⟩
theorem bu_string (w0 : World) (b : Nat) (l : List UInt8) (s : ByteArray) (W : World) (h : Bu w0 b l W) (hl : l.length + s.size ≤ 1000000000) :
    Calls Tryz.prog 18 #[.pointer (some ⟨b, 0, none⟩), .string s] W fun e w' => e = .returned (.tuple #[.int .i64 s.size, .nilIface]) ∧ Bu w0 b (l ++ bs s) w' ∧ Lib.OthersKept 5 (some b) W w' := by
  refine (Bd.writeString w0.heap.size b (Lib.byteCells l) s W h.1 (by rw [Lib.byteCells_length]; omega) h.size).mono ?_
  rintro e w' ⟨rfl, h1, h2, h3⟩
  refine ⟨rfl, ⟨.inr ?_, h.2.trans h2⟩, h3⟩
  rw [Lib.byteCells_append]
  exact h1
theorem bu_byte (w0 : World) (b : Nat) (l : List UInt8) (c : UInt8) (W : World) (h : Bu w0 b l W) (hl : l.length ≤ 1000000000) :
    Calls Tryz.prog 76 #[.pointer (some ⟨b, 0, none⟩), .int .u8 c.toNat] W fun e w' => e = .returned .nilIface ∧ Bu w0 b (l ++ [c]) w' ∧ Lib.OthersKept 5 (some b) W w' := by
  refine (Bd.writeByte w0.heap.size b (Lib.byteCells l) c.toNat W h.1 (by rw [Lib.byteCells_length]; omega) h.size).mono ?_
  rintro e w' ⟨rfl, h1, h2, h3⟩
  refine ⟨rfl, ⟨.inr ?_, h.2.trans h2⟩, h3⟩
  rw [Lib.byteCells_append]
  exact h1
theorem bu_len (w0 : World) (b : Nat) (l : List UInt8) (W : World) (h : Bu w0 b l W) :
    Calls Tryz.prog 20 #[.pointer (some ⟨b, 0, none⟩)] W fun e w' => e = .returned (.int .i64 l.length) ∧ w' = W := by
  have := Bd.len w0.heap.size b (Lib.byteCells l) W h.1
  rwa [Lib.byteCells_length] at this
theorem kept_block {b k : Nat} {cs : Array Value} {W W' : World} (h : Lib.OthersKept 5 (some b) W W') (hk : W.heap[k]? = some (.cells cs 38 (0, 0))) (hne : k ≠ b) : W'.heap[k]? = some (.cells cs 38 (0, 0)) :=
  h k _ hk (fun e => hne (Option.some.inj e)) (fun c fz e => by cases e)
def WriteAt (n : Nat) : Prop := ∀ (v : S38) (A3 : Option Addr) (c3 : Nat) (w0 W : World) (b : Nat) (l : List UInt8), Kd.C k38 w0 A3 v.f3.length v.f3 → v.f3.length ≤ c3 → Good n v → Tab w0 → Bu w0 b l W → l.length + (txt n v).length ≤ 1000000 →
    Calls Tryz.prog 51 #[.pointer (some ⟨b, 0, none⟩), val38 v A3 c3] W fun e w' => e = .returned (.tuple #[]) ∧ Bu w0 b (l ++ txt n v) w' ∧ Lib.OthersKept 5 (some b) W w'
def headB (v : S38) : List UInt8 := if v.f0 = 2 then Lib.itoa v.f2 else if v.f0 = 3 then 95 :: Lib.itoa v.f2 else if v.f0 = 4 then 39 :: bs v.f1 else bs v.f1
theorem txt_head (n : Nat) (v : S38) (h : rightF (n + 1) v = true) : txt (n + 1) v = headB v ++ v.f3.flatMap fun k => 32 :: inn n k := by
  simp only [rightF, Bool.and_eq_true] at h
  have hn := h.1
  rw [txt_succ]
  unfold headB
  by_cases h2 : v.f0 = 2
  · unfold nodeB at hn
    rw [if_neg (by omega), if_neg (by omega), if_pos h2] at hn
    simp only [Bool.and_eq_true, decide_eq_true_eq] at hn
    rw [if_pos h2, if_pos h2, List.eq_nil_of_length_eq_zero hn.1.1.2]; simp
  · by_cases h3 : v.f0 = 3
    · unfold nodeB at hn
      rw [if_neg (by omega), if_neg (by omega), if_neg (by omega), if_pos h3] at hn
      simp only [Bool.and_eq_true, decide_eq_true_eq] at hn
      rw [if_neg h2, if_pos h3, if_neg h2, if_pos h3, List.eq_nil_of_length_eq_zero hn.1.1.2]; simp
    · rw [if_neg h2, if_neg h3, if_neg h2, if_neg h3]
theorem okept_below {e : TypeId} {bo : Option Nat} {a w w' : World} (h : Lib.OthersKept e bo a w) (hb : Below w.heap.size w w') : Lib.OthersKept e bo a w' := fun k o hk hne ho => by
  have h1 := h k o hk hne ho
  exact blk_below h1 hb
theorem itoa_of (n : Nat) (v : S38) (h : rightF (n + 1) v = true) (h2 : v.f0 = 2 ∨ v.f0 = 3) : -1000000000 ≤ v.f2 ∧ v.f2 ≤ 1000000000 := by
  simp only [rightF, Bool.and_eq_true] at h
  have hn := h.1
  unfold nodeB at hn
  rcases h2 with h2 | h2
  · rw [if_neg (by omega), if_neg (by omega), if_pos h2] at hn
    simp only [Bool.and_eq_true, decide_eq_true_eq] at hn
    exact ⟨hn.1.2, hn.2⟩
  · rw [if_neg (by omega), if_neg (by omega), if_neg (by omega), if_pos h2] at hn
    simp only [Bool.and_eq_true, decide_eq_true_eq] at hn
    omega
set_option maxHeartbeats 8000000 in
theorem write_int (n : Nat) (ih0 : WriteAt n) (v : S38) (A3 : Option Addr) (c3 : Nat) (w0 W : World) (b : Nat) (l : List UInt8) (hr : Kd.C k38 w0 A3 v.f3.length v.f3) (hc : v.f3.length ≤ c3) (hg : Good (n + 1) v) (ht : Tab w0) (hB : Bu w0 b l W) (hl0 : l.length + (txt (n + 1) v).length ≤ 1000000) (h2 : v.f0 = 2) :
    Calls Tryz.prog 51 #[.pointer (some ⟨b, 0, none⟩), val38 v A3 c3] W fun e w' => e = .returned (.tuple #[]) ∧ Bu w0 b (l ++ txt (n + 1) v) w' ∧ Lib.OthersKept 5 (some b) W w' := by
  have ih := Aside0.mk ih0
  have HR := Aside0.mk hr
  have HGd := Aside0.mk hg
  have HTb := Aside0.mk ht
  have HNl := Aside0.mk (show v.f3.length ≤ 9223372036854775807 from C_len hr)
  have e1 : (v.f0 == 2) = true := by rw [h2]; rfl
  have HH : headB v = Lib.itoa v.f2 := by unfold headB; rw [if_pos h2]
  have HCa := Aside0.mk (fun W (hW : Below w0.heap.size w0 W) => itoa_calls v.f2 (itoa_of n v hg.2.1 (.inl h2)).1 (itoa_of n v hg.2.1 (.inl h2)).2 W (ht.below hW))
  have HT := txt_head n v hg.2.1
  rw [HT] at hl0 ⊢
  have HLe := Aside0.mk hl0
  have HB0 := Aside0.mk hB
  clear ih0 hr hg ht hB HT hl0
  rw [HH] at HLe ⊢
  clear h2 HH
  generalize hhd : Lib.itoa v.f2 = hd at *
  clear hhd
  go_enter Tryz.func51, Tryz.ntmps51
  go_wp2_with fail
  refine (HCa.out _ (below_alloc HB0.out.2 _)).mono ?_
  rintro e w7 ⟨rfl, hb7⟩
  have HB7 := Aside0.mk ((HB0.out.alloc _).below hb7)
  have HK7 := Aside0.mk (okept_below ((Lib.OthersKept.refl 5 (some b) W).alloc _) hb7)
  have BK7 := Aside0.mk (blk_below (blk_new W _) hb7)
  clear hb7
  go_wp2_with fail
  refine (bu_string w0 b l _ _ HB7.out (by have := HLe.out; rw [← size_bs, bs_mk]; simp only [List.length_append] at this; omega)).mono ?_
  rintro e w8 ⟨rfl, hb8, hk8⟩
  have HB8 := Aside0.mk (show Bu w0 b (l ++ hd) w8 by rwa [bs_mk] at hb8)
  have HK8 := Aside0.mk (HK7.out.trans hk8)
  have BK8 := Aside0.mk (kept_block hk8 BK7.out (by have := HB0.out.lt; omega))
  clear hb8 hk8
  have m3 : w8.cell? ⟨W.heap.size, 3, none⟩ = some (.slice A3 v.f3.length c3) := (blk_cell BK8.out 3).trans rfl
  go_wp2_with fail
  clear HCa
  go_loopg [37] v.f3.length (fun gg s37 wr => ∃ i : Int, s37 = .int .i64 i ∧ Aside0 (0 ≤ i ∧ i ≤ v.f3.length ∧ v.f3.length - i.toNat ≤ gg) ∧ Aside0 (Bu w0 b (l ++ hd ++ (v.f3.take i.toNat).flatMap fun k => 32 :: inn n k) wr) ∧ Aside0 (Lib.OthersKept 5 (some b) W wr))
  case atStart => exact ⟨0, rfl, ⟨by omega, by omega, by omega⟩, ⟨by simpa using HB8.out⟩, HK8⟩
  case round =>
    clear m3 HB8 HK8 BK8
    obtain ⟨i, rfl, HI, HB, HKW⟩ := hrel
    by_cases hlt : i < (v.f3.length : Int)
    · have p0 : 0 ≤ i := HI.out.1
      have d1 : decide (i < (v.f3.length : Int)) = true := decide_eq_true hlt
      have d2 : decide (0 ≤ i) = true := decide_eq_true p0
      obtain ⟨ad, A, c, e0, x0, x1, x2, x3, hl, hC⟩ := at_T38 HR.out i p0 hlt
      cases e0
      replace x0 := (HB.out.2.cell (World.block_lt_of_cell? w0 _ x0)).trans x0
      replace x1 := (HB.out.2.cell (World.block_lt_of_cell? w0 _ x1)).trans x1
      replace x2 := (HB.out.2.cell (World.block_lt_of_cell? w0 _ x2)).trans x2
      replace x3 := (HB.out.2.cell (World.block_lt_of_cell? w0 _ x3)).trans x3
      have HC := Aside0.mk hC
      have HLc := Aside0.mk hl
      clear hC hl
      have HM := Aside0.mk (rd_mem v.f3 i p0 hlt)
      have HF := Aside0.mk (take_flat (fun k => 32 :: inn n k) v.f3 i p0 hlt)
      have HLT := Aside0.mk hlt
      have P0 := Aside0.mk p0
      have HW := Aside0.mk (show wrap64 (i + 1) = i + 1 by have := HNl.out; unfold wrap64; omega)
      have HZ := Aside0.mk (show l.length + hd.length + ((v.f3.take i.toNat).flatMap fun k => 32 :: inn n k).length + (1 + (inn n (rd_T38 v.f3 i)).length) ≤ 1000000 by
        have h1 := HLe.out
        have h3 := HF.out
        have h4 : ((v.f3.take (i + 1).toNat).flatMap fun k => 32 :: inn n k).length ≤ (v.f3.flatMap fun k => 32 :: inn n k).length := by
          conv => rhs; rw [← List.take_append_drop (i + 1).toNat v.f3, List.flatMap_append, List.length_append]
          omega
        rw [h3] at h4
        simp only [List.length_append, List.length_cons] at h1 h4
        omega)
      have HIn := Aside0.mk (show inn n (rd_T38 v.f3 i) = if (rd_T38 v.f3 i).f3.length = 0 then txt n (rd_T38 v.f3 i) else 40 :: (txt n (rd_T38 v.f3 i) ++ [41]) from rfl)
      have HG := Aside0.mk (good_kid HGd.out HM.out)
      have HNE := Aside0.mk (show wr.heap.size ≠ b by have := HB.out.lt; omega)
      generalize hx : rd_T38 v.f3 i = x at *
      generalize hfl : ((v.f3.take i.toNat).flatMap fun k => 32 :: inn n k) = fl at *
      clear hx hfl
      replace hlt := eq_true hlt
      replace p0 := eq_true p0
      by_cases h0 : x.f3.length = 0
      · have f1 : decide (0 < x.f3.length) = false := decide_eq_false (by omega)
        have HI2 := Aside0.mk (HIn.out.trans (if_pos h0))
        clear h0
        go_wp2_with fail
        refine (bu_byte w0 b _ 32 _ (HB.out.alloc _) (by have := HZ.out; simp only [List.length_append]; omega)).mono ?_
        rintro e w9 ⟨rfl, hb9, hk9⟩
        have HB9 := Aside0.mk hb9
        have HK9 := Aside0.mk ((HKW.out.alloc _).trans hk9)
        have BK9 := Aside0.mk (kept_block hk9 (blk_new wr _) HNE.out)
        clear hb9 hk9 x0 x1 x2 x3
        have n0 := (blk_cell BK9.out 0).trans rfl
        have n1 := (blk_cell BK9.out 1).trans rfl
        have n2 := (blk_cell BK9.out 2).trans rfl
        have n3 := (blk_cell BK9.out 3).trans rfl
        go_wp2_with fail
        refine (ih.out x A c w0 w9 b _ HC.out HLc.out HG.out HTb.out HB9.out (by have := HZ.out; rw [HI2.out] at this; simp only [List.length_append, List.length_cons, List.length_nil]; omega)).mono ?_
        rintro e w10 ⟨rfl, hb10, hk10⟩
        have HB10 := Aside0.mk hb10
        have HK10 := Aside0.mk (HK9.out.trans hk10)
        have BK10 := Aside0.mk (kept_block hk10 BK9.out HNE.out)
        clear hb10 hk10 n0 n1 n2 n3
        have n3 := (blk_cell BK10.out 3).trans rfl
        go_wp2_with fail
        go_roundg (v.f3.length - (i + 1).toNat)
        case measure => have := HI.out; have := HLT.out; have := P0.out; omega
        case rel => exact ⟨i + 1, by rw [HW.out], ⟨by have := P0.out; omega, by have := HLT.out; omega, by omega⟩, ⟨by rw [HF.out, HI2.out]; have := HB10.out; simpa using this⟩, HK10⟩
      · have f1 : decide (0 < x.f3.length) = true := decide_eq_true (by omega)
        have HI2 := Aside0.mk (HIn.out.trans (if_neg h0))
        clear h0
        go_wp2_with fail
        refine (bu_byte w0 b _ 32 _ (HB.out.alloc _) (by have := HZ.out; simp only [List.length_append]; omega)).mono ?_
        rintro e w9 ⟨rfl, hb9, hk9⟩
        have HB9 := Aside0.mk hb9
        have HK9 := Aside0.mk ((HKW.out.alloc _).trans hk9)
        have BK9 := Aside0.mk (kept_block hk9 (blk_new wr _) HNE.out)
        clear hb9 hk9 x0 x1 x2 x3
        have n3 := (blk_cell BK9.out 3).trans rfl
        go_wp2_with fail
        refine (bu_byte w0 b _ 40 _ HB9.out (by have := HZ.out; rw [HI2.out] at this; simp only [List.length_append, List.length_cons, List.length_nil] at this ⊢; omega)).mono ?_
        rintro e w11 ⟨rfl, hb11, hk11⟩
        have HB11 := Aside0.mk hb11
        have HK11 := Aside0.mk (HK9.out.trans hk11)
        have BK11 := Aside0.mk (kept_block hk11 BK9.out HNE.out)
        clear hb11 hk11 n3
        have n0 := (blk_cell BK11.out 0).trans rfl
        have n1 := (blk_cell BK11.out 1).trans rfl
        have n2 := (blk_cell BK11.out 2).trans rfl
        have n3 := (blk_cell BK11.out 3).trans rfl
        go_wp2_with fail
        refine (ih.out x A c w0 w11 b _ HC.out HLc.out HG.out HTb.out HB11.out (by have := HZ.out; rw [HI2.out] at this; simp only [List.length_append, List.length_cons, List.length_nil] at this ⊢; omega)).mono ?_
        rintro e w10 ⟨rfl, hb10, hk10⟩
        have HB10 := Aside0.mk hb10
        have HK10 := Aside0.mk (HK11.out.trans hk10)
        have BK10 := Aside0.mk (kept_block hk10 BK11.out HNE.out)
        clear hb10 hk10 n0 n1 n2 n3
        have n3 := (blk_cell BK10.out 3).trans rfl
        go_wp2_with fail
        refine (bu_byte w0 b _ 41 _ HB10.out (by have := HZ.out; rw [HI2.out] at this; simp only [List.length_append, List.length_cons, List.length_nil] at this ⊢; omega)).mono ?_
        rintro e w12 ⟨rfl, hb12, hk12⟩
        have HB12 := Aside0.mk hb12
        have HK12 := Aside0.mk (HK10.out.trans hk12)
        clear hb12 hk12 n3
        go_wp2_with fail
        go_roundg (v.f3.length - (i + 1).toNat)
        case measure => have := HI.out; have := HLT.out; have := P0.out; omega
        case rel => exact ⟨i + 1, by rw [HW.out], ⟨by have := P0.out; omega, by have := HLT.out; omega, by omega⟩, ⟨by rw [HF.out, HI2.out]; have := HB12.out; simpa using this⟩, HK12⟩
    · have d1 : decide (i < (v.f3.length : Int)) = false := decide_eq_false hlt
      have HE := Aside0.mk (show Bu w0 b (l ++ (hd ++ v.f3.flatMap fun k => 32 :: inn n k)) wr by
        have h := HB.out
        rwa [List.take_of_length_le (by have := HI.out; omega), List.append_assoc] at h)
      clear hlt
      go_wp2
      go_end0
      exact ⟨rfl, HE.out, HKW.out⟩
set_option maxHeartbeats 8000000 in
theorem write_var (n : Nat) (ih0 : WriteAt n) (v : S38) (A3 : Option Addr) (c3 : Nat) (w0 W : World) (b : Nat) (l : List UInt8) (hr : Kd.C k38 w0 A3 v.f3.length v.f3) (hc : v.f3.length ≤ c3) (hg : Good (n + 1) v) (ht : Tab w0) (hB : Bu w0 b l W) (hl0 : l.length + (txt (n + 1) v).length ≤ 1000000) (h3 : v.f0 = 3) :
    Calls Tryz.prog 51 #[.pointer (some ⟨b, 0, none⟩), val38 v A3 c3] W fun e w' => e = .returned (.tuple #[]) ∧ Bu w0 b (l ++ txt (n + 1) v) w' ∧ Lib.OthersKept 5 (some b) W w' := by
  have ih := Aside0.mk ih0
  have HR := Aside0.mk hr
  have HGd := Aside0.mk hg
  have HTb := Aside0.mk ht
  have HNl := Aside0.mk (show v.f3.length ≤ 9223372036854775807 from C_len hr)
  have e1 : (v.f0 == 2) = false := by rw [h3]; rfl
  have e2 : (v.f0 == 3) = true := by rw [h3]; rfl
  have HH : headB v = 95 :: Lib.itoa v.f2 := by unfold headB; rw [if_neg (by omega), if_pos h3]
  have HCa := Aside0.mk (fun W (hW : Below w0.heap.size w0 W) => itoa_calls v.f2 (itoa_of n v hg.2.1 (.inr h3)).1 (itoa_of n v hg.2.1 (.inr h3)).2 W (ht.below hW))
  have hti := itoa_len v.f2 (itoa_of n v hg.2.1 (.inr h3)).1 (itoa_of n v hg.2.1 (.inr h3)).2
  have HT := txt_head n v hg.2.1
  rw [HT] at hl0 ⊢
  have HLe := Aside0.mk hl0
  have HB0 := Aside0.mk hB
  clear ih0 hr hg ht hB HT hl0
  rw [HH] at HLe ⊢
  clear h3 HH
  generalize hhd0 : Lib.itoa v.f2 = t at *
  clear hhd0
  obtain ⟨hd, hhd⟩ : ∃ hd, hd = 95 :: t := ⟨_, rfl⟩
  rw [← hhd] at HLe ⊢
  have HHd := Aside0.mk hhd
  clear hhd
  go_enter Tryz.func51, Tryz.ntmps51
  go_wp2_with fail
  refine (HCa.out _ (below_alloc HB0.out.2 _)).mono ?_
  rintro e w7 ⟨rfl, hb7⟩
  have HB7 := Aside0.mk ((HB0.out.alloc _).below hb7)
  have HK7 := Aside0.mk (okept_below ((Lib.OthersKept.refl 5 (some b) W).alloc _) hb7)
  have BK7 := Aside0.mk (blk_below (blk_new W _) hb7)
  clear hb7
  go_wp2_with fail
  refine (bu_string w0 b l _ _ HB7.out (by have := HLe.out; rw [← size_bs, bs_append, bs_mk, bs_mk]; rw [HHd.out] at this; simp only [List.length_append, List.length_cons, List.length_nil] at this ⊢; omega)).mono ?_
  rintro e w8 ⟨rfl, hb8, hk8⟩
  have HB8 := Aside0.mk (show Bu w0 b (l ++ hd) w8 by rw [bs_append, bs_mk, bs_mk] at hb8; rw [HHd.out]; exact hb8)
  have HK8 := Aside0.mk (HK7.out.trans hk8)
  have BK8 := Aside0.mk (kept_block hk8 BK7.out (by have := HB0.out.lt; omega))
  clear hb8 hk8
  have m3 : w8.cell? ⟨W.heap.size, 3, none⟩ = some (.slice A3 v.f3.length c3) := (blk_cell BK8.out 3).trans rfl
  go_wp2_with fail
  clear HCa
  go_loopg [37] v.f3.length (fun gg s37 wr => ∃ i : Int, s37 = .int .i64 i ∧ Aside0 (0 ≤ i ∧ i ≤ v.f3.length ∧ v.f3.length - i.toNat ≤ gg) ∧ Aside0 (Bu w0 b (l ++ hd ++ (v.f3.take i.toNat).flatMap fun k => 32 :: inn n k) wr) ∧ Aside0 (Lib.OthersKept 5 (some b) W wr))
  case atStart => exact ⟨0, rfl, ⟨by omega, by omega, by omega⟩, ⟨by simpa using HB8.out⟩, HK8⟩
  case round =>
    clear m3 HB8 HK8 BK8
    obtain ⟨i, rfl, HI, HB, HKW⟩ := hrel
    by_cases hlt : i < (v.f3.length : Int)
    · have p0 : 0 ≤ i := HI.out.1
      have d1 : decide (i < (v.f3.length : Int)) = true := decide_eq_true hlt
      have d2 : decide (0 ≤ i) = true := decide_eq_true p0
      obtain ⟨ad, A, c, e0, x0, x1, x2, x3, hl, hC⟩ := at_T38 HR.out i p0 hlt
      cases e0
      replace x0 := (HB.out.2.cell (World.block_lt_of_cell? w0 _ x0)).trans x0
      replace x1 := (HB.out.2.cell (World.block_lt_of_cell? w0 _ x1)).trans x1
      replace x2 := (HB.out.2.cell (World.block_lt_of_cell? w0 _ x2)).trans x2
      replace x3 := (HB.out.2.cell (World.block_lt_of_cell? w0 _ x3)).trans x3
      have HC := Aside0.mk hC
      have HLc := Aside0.mk hl
      clear hC hl
      have HM := Aside0.mk (rd_mem v.f3 i p0 hlt)
      have HF := Aside0.mk (take_flat (fun k => 32 :: inn n k) v.f3 i p0 hlt)
      have HLT := Aside0.mk hlt
      have P0 := Aside0.mk p0
      have HW := Aside0.mk (show wrap64 (i + 1) = i + 1 by have := HNl.out; unfold wrap64; omega)
      have HZ := Aside0.mk (show l.length + hd.length + ((v.f3.take i.toNat).flatMap fun k => 32 :: inn n k).length + (1 + (inn n (rd_T38 v.f3 i)).length) ≤ 1000000 by
        have h1 := HLe.out
        have h3 := HF.out
        have h4 : ((v.f3.take (i + 1).toNat).flatMap fun k => 32 :: inn n k).length ≤ (v.f3.flatMap fun k => 32 :: inn n k).length := by
          conv => rhs; rw [← List.take_append_drop (i + 1).toNat v.f3, List.flatMap_append, List.length_append]
          omega
        rw [h3] at h4
        simp only [List.length_append, List.length_cons] at h1 h4
        omega)
      have HIn := Aside0.mk (show inn n (rd_T38 v.f3 i) = if (rd_T38 v.f3 i).f3.length = 0 then txt n (rd_T38 v.f3 i) else 40 :: (txt n (rd_T38 v.f3 i) ++ [41]) from rfl)
      have HG := Aside0.mk (good_kid HGd.out HM.out)
      have HNE := Aside0.mk (show wr.heap.size ≠ b by have := HB.out.lt; omega)
      generalize hx : rd_T38 v.f3 i = x at *
      generalize hfl : ((v.f3.take i.toNat).flatMap fun k => 32 :: inn n k) = fl at *
      clear hx hfl
      replace hlt := eq_true hlt
      replace p0 := eq_true p0
      by_cases h0 : x.f3.length = 0
      · have f1 : decide (0 < x.f3.length) = false := decide_eq_false (by omega)
        have HI2 := Aside0.mk (HIn.out.trans (if_pos h0))
        clear h0
        go_wp2_with fail
        refine (bu_byte w0 b _ 32 _ (HB.out.alloc _) (by have := HZ.out; simp only [List.length_append]; omega)).mono ?_
        rintro e w9 ⟨rfl, hb9, hk9⟩
        have HB9 := Aside0.mk hb9
        have HK9 := Aside0.mk ((HKW.out.alloc _).trans hk9)
        have BK9 := Aside0.mk (kept_block hk9 (blk_new wr _) HNE.out)
        clear hb9 hk9 x0 x1 x2 x3
        have n0 := (blk_cell BK9.out 0).trans rfl
        have n1 := (blk_cell BK9.out 1).trans rfl
        have n2 := (blk_cell BK9.out 2).trans rfl
        have n3 := (blk_cell BK9.out 3).trans rfl
        go_wp2_with fail
        refine (ih.out x A c w0 w9 b _ HC.out HLc.out HG.out HTb.out HB9.out (by have := HZ.out; rw [HI2.out] at this; simp only [List.length_append, List.length_cons, List.length_nil]; omega)).mono ?_
        rintro e w10 ⟨rfl, hb10, hk10⟩
        have HB10 := Aside0.mk hb10
        have HK10 := Aside0.mk (HK9.out.trans hk10)
        have BK10 := Aside0.mk (kept_block hk10 BK9.out HNE.out)
        clear hb10 hk10 n0 n1 n2 n3
        have n3 := (blk_cell BK10.out 3).trans rfl
        go_wp2_with fail
        go_roundg (v.f3.length - (i + 1).toNat)
        case measure => have := HI.out; have := HLT.out; have := P0.out; omega
        case rel => exact ⟨i + 1, by rw [HW.out], ⟨by have := P0.out; omega, by have := HLT.out; omega, by omega⟩, ⟨by rw [HF.out, HI2.out]; have := HB10.out; simpa using this⟩, HK10⟩
      · have f1 : decide (0 < x.f3.length) = true := decide_eq_true (by omega)
        have HI2 := Aside0.mk (HIn.out.trans (if_neg h0))
        clear h0
        go_wp2_with fail
        refine (bu_byte w0 b _ 32 _ (HB.out.alloc _) (by have := HZ.out; simp only [List.length_append]; omega)).mono ?_
        rintro e w9 ⟨rfl, hb9, hk9⟩
        have HB9 := Aside0.mk hb9
        have HK9 := Aside0.mk ((HKW.out.alloc _).trans hk9)
        have BK9 := Aside0.mk (kept_block hk9 (blk_new wr _) HNE.out)
        clear hb9 hk9 x0 x1 x2 x3
        have n3 := (blk_cell BK9.out 3).trans rfl
        go_wp2_with fail
        refine (bu_byte w0 b _ 40 _ HB9.out (by have := HZ.out; rw [HI2.out] at this; simp only [List.length_append, List.length_cons, List.length_nil] at this ⊢; omega)).mono ?_
        rintro e w11 ⟨rfl, hb11, hk11⟩
        have HB11 := Aside0.mk hb11
        have HK11 := Aside0.mk (HK9.out.trans hk11)
        have BK11 := Aside0.mk (kept_block hk11 BK9.out HNE.out)
        clear hb11 hk11 n3
        have n0 := (blk_cell BK11.out 0).trans rfl
        have n1 := (blk_cell BK11.out 1).trans rfl
        have n2 := (blk_cell BK11.out 2).trans rfl
        have n3 := (blk_cell BK11.out 3).trans rfl
        go_wp2_with fail
        refine (ih.out x A c w0 w11 b _ HC.out HLc.out HG.out HTb.out HB11.out (by have := HZ.out; rw [HI2.out] at this; simp only [List.length_append, List.length_cons, List.length_nil] at this ⊢; omega)).mono ?_
        rintro e w10 ⟨rfl, hb10, hk10⟩
        have HB10 := Aside0.mk hb10
        have HK10 := Aside0.mk (HK11.out.trans hk10)
        have BK10 := Aside0.mk (kept_block hk10 BK11.out HNE.out)
        clear hb10 hk10 n0 n1 n2 n3
        have n3 := (blk_cell BK10.out 3).trans rfl
        go_wp2_with fail
        refine (bu_byte w0 b _ 41 _ HB10.out (by have := HZ.out; rw [HI2.out] at this; simp only [List.length_append, List.length_cons, List.length_nil] at this ⊢; omega)).mono ?_
        rintro e w12 ⟨rfl, hb12, hk12⟩
        have HB12 := Aside0.mk hb12
        have HK12 := Aside0.mk (HK10.out.trans hk12)
        clear hb12 hk12 n3
        go_wp2_with fail
        go_roundg (v.f3.length - (i + 1).toNat)
        case measure => have := HI.out; have := HLT.out; have := P0.out; omega
        case rel => exact ⟨i + 1, by rw [HW.out], ⟨by have := P0.out; omega, by have := HLT.out; omega, by omega⟩, ⟨by rw [HF.out, HI2.out]; have := HB12.out; simpa using this⟩, HK12⟩
    · have d1 : decide (i < (v.f3.length : Int)) = false := decide_eq_false hlt
      have HE := Aside0.mk (show Bu w0 b (l ++ (hd ++ v.f3.flatMap fun k => 32 :: inn n k)) wr by
        have h := HB.out
        rwa [List.take_of_length_le (by have := HI.out; omega), List.append_assoc] at h)
      clear hlt
      go_wp2
      go_end0
      exact ⟨rfl, HE.out, HKW.out⟩
set_option maxHeartbeats 8000000 in
theorem write_part (n : Nat) (ih0 : WriteAt n) (v : S38) (A3 : Option Addr) (c3 : Nat) (w0 W : World) (b : Nat) (l : List UInt8) (hr : Kd.C k38 w0 A3 v.f3.length v.f3) (hc : v.f3.length ≤ c3) (hg : Good (n + 1) v) (ht : Tab w0) (hB : Bu w0 b l W) (hl0 : l.length + (txt (n + 1) v).length ≤ 1000000) (h4 : v.f0 = 4) :
    Calls Tryz.prog 51 #[.pointer (some ⟨b, 0, none⟩), val38 v A3 c3] W fun e w' => e = .returned (.tuple #[]) ∧ Bu w0 b (l ++ txt (n + 1) v) w' ∧ Lib.OthersKept 5 (some b) W w' := by
  have ih := Aside0.mk ih0
  have HR := Aside0.mk hr
  have HGd := Aside0.mk hg
  have HTb := Aside0.mk ht
  have HNl := Aside0.mk (show v.f3.length ≤ 9223372036854775807 from C_len hr)
  have e1 : (v.f0 == 2) = false := by rw [h4]; rfl
  have e2 : (v.f0 == 3) = false := by rw [h4]; rfl
  have e3 : (v.f0 == 4) = true := by rw [h4]; rfl
  have HH : headB v = 39 :: bs v.f1 := by unfold headB; rw [if_neg (by omega), if_neg (by omega), if_pos h4]
  have HT := txt_head n v hg.2.1
  rw [HT] at hl0 ⊢
  have HLe := Aside0.mk hl0
  have HB0 := Aside0.mk hB
  clear ih0 hr hg ht hB HT hl0
  rw [HH] at HLe ⊢
  have hz0 : v.f1.size ≤ 1000000 := by have := HLe.out; rw [← size_bs]; simp only [List.length_append, List.length_cons] at this; omega
  clear h4 HH
  obtain ⟨hd, hhd⟩ : ∃ hd, hd = 39 :: bs v.f1 := ⟨_, rfl⟩
  rw [← hhd] at HLe ⊢
  have HHd := Aside0.mk hhd
  clear hhd
  go_enter Tryz.func51, Tryz.ntmps51
  have HB7 := HB0
  have HCa := Aside0.mk trivial
  go_wp2_with fail
  refine (bu_string w0 b l _ _ (HB7.out.alloc _) (by have := HLe.out; rw [← size_bs, bs_append, bs_mk]; rw [HHd.out] at this; simp only [List.length_append, List.length_cons, List.length_nil] at this ⊢; omega)).mono ?_
  rintro e w8 ⟨rfl, hb8, hk8⟩
  have HB8 := Aside0.mk (show Bu w0 b (l ++ hd) w8 by rw [bs_append, bs_mk] at hb8; rw [HHd.out]; exact hb8)
  have HK8 := Aside0.mk (((Lib.OthersKept.refl 5 (some b) W).alloc _).trans hk8)
  have BK8 := Aside0.mk (kept_block hk8 (blk_new W _) (by have := HB0.out.lt; omega))
  clear hb8 hk8
  have m3 : w8.cell? ⟨W.heap.size, 3, none⟩ = some (.slice A3 v.f3.length c3) := (blk_cell BK8.out 3).trans rfl
  go_wp2_with fail
  clear HCa
  go_loopg [37] v.f3.length (fun gg s37 wr => ∃ i : Int, s37 = .int .i64 i ∧ Aside0 (0 ≤ i ∧ i ≤ v.f3.length ∧ v.f3.length - i.toNat ≤ gg) ∧ Aside0 (Bu w0 b (l ++ hd ++ (v.f3.take i.toNat).flatMap fun k => 32 :: inn n k) wr) ∧ Aside0 (Lib.OthersKept 5 (some b) W wr))
  case atStart => exact ⟨0, rfl, ⟨by omega, by omega, by omega⟩, ⟨by simpa using HB8.out⟩, HK8⟩
  case round =>
    clear m3 HB8 HK8 BK8
    obtain ⟨i, rfl, HI, HB, HKW⟩ := hrel
    by_cases hlt : i < (v.f3.length : Int)
    · have p0 : 0 ≤ i := HI.out.1
      have d1 : decide (i < (v.f3.length : Int)) = true := decide_eq_true hlt
      have d2 : decide (0 ≤ i) = true := decide_eq_true p0
      obtain ⟨ad, A, c, e0, x0, x1, x2, x3, hl, hC⟩ := at_T38 HR.out i p0 hlt
      cases e0
      replace x0 := (HB.out.2.cell (World.block_lt_of_cell? w0 _ x0)).trans x0
      replace x1 := (HB.out.2.cell (World.block_lt_of_cell? w0 _ x1)).trans x1
      replace x2 := (HB.out.2.cell (World.block_lt_of_cell? w0 _ x2)).trans x2
      replace x3 := (HB.out.2.cell (World.block_lt_of_cell? w0 _ x3)).trans x3
      have HC := Aside0.mk hC
      have HLc := Aside0.mk hl
      clear hC hl
      have HM := Aside0.mk (rd_mem v.f3 i p0 hlt)
      have HF := Aside0.mk (take_flat (fun k => 32 :: inn n k) v.f3 i p0 hlt)
      have HLT := Aside0.mk hlt
      have P0 := Aside0.mk p0
      have HW := Aside0.mk (show wrap64 (i + 1) = i + 1 by have := HNl.out; unfold wrap64; omega)
      have HZ := Aside0.mk (show l.length + hd.length + ((v.f3.take i.toNat).flatMap fun k => 32 :: inn n k).length + (1 + (inn n (rd_T38 v.f3 i)).length) ≤ 1000000 by
        have h1 := HLe.out
        have h3 := HF.out
        have h4 : ((v.f3.take (i + 1).toNat).flatMap fun k => 32 :: inn n k).length ≤ (v.f3.flatMap fun k => 32 :: inn n k).length := by
          conv => rhs; rw [← List.take_append_drop (i + 1).toNat v.f3, List.flatMap_append, List.length_append]
          omega
        rw [h3] at h4
        simp only [List.length_append, List.length_cons] at h1 h4
        omega)
      have HIn := Aside0.mk (show inn n (rd_T38 v.f3 i) = if (rd_T38 v.f3 i).f3.length = 0 then txt n (rd_T38 v.f3 i) else 40 :: (txt n (rd_T38 v.f3 i) ++ [41]) from rfl)
      have HG := Aside0.mk (good_kid HGd.out HM.out)
      have HNE := Aside0.mk (show wr.heap.size ≠ b by have := HB.out.lt; omega)
      generalize hx : rd_T38 v.f3 i = x at *
      generalize hfl : ((v.f3.take i.toNat).flatMap fun k => 32 :: inn n k) = fl at *
      clear hx hfl
      replace hlt := eq_true hlt
      replace p0 := eq_true p0
      by_cases h0 : x.f3.length = 0
      · have f1 : decide (0 < x.f3.length) = false := decide_eq_false (by omega)
        have HI2 := Aside0.mk (HIn.out.trans (if_pos h0))
        clear h0
        go_wp2_with fail
        refine (bu_byte w0 b _ 32 _ (HB.out.alloc _) (by have := HZ.out; simp only [List.length_append]; omega)).mono ?_
        rintro e w9 ⟨rfl, hb9, hk9⟩
        have HB9 := Aside0.mk hb9
        have HK9 := Aside0.mk ((HKW.out.alloc _).trans hk9)
        have BK9 := Aside0.mk (kept_block hk9 (blk_new wr _) HNE.out)
        clear hb9 hk9 x0 x1 x2 x3
        have n0 := (blk_cell BK9.out 0).trans rfl
        have n1 := (blk_cell BK9.out 1).trans rfl
        have n2 := (blk_cell BK9.out 2).trans rfl
        have n3 := (blk_cell BK9.out 3).trans rfl
        go_wp2_with fail
        refine (ih.out x A c w0 w9 b _ HC.out HLc.out HG.out HTb.out HB9.out (by have := HZ.out; rw [HI2.out] at this; simp only [List.length_append, List.length_cons, List.length_nil]; omega)).mono ?_
        rintro e w10 ⟨rfl, hb10, hk10⟩
        have HB10 := Aside0.mk hb10
        have HK10 := Aside0.mk (HK9.out.trans hk10)
        have BK10 := Aside0.mk (kept_block hk10 BK9.out HNE.out)
        clear hb10 hk10 n0 n1 n2 n3
        have n3 := (blk_cell BK10.out 3).trans rfl
        go_wp2_with fail
        go_roundg (v.f3.length - (i + 1).toNat)
        case measure => have := HI.out; have := HLT.out; have := P0.out; omega
        case rel => exact ⟨i + 1, by rw [HW.out], ⟨by have := P0.out; omega, by have := HLT.out; omega, by omega⟩, ⟨by rw [HF.out, HI2.out]; have := HB10.out; simpa using this⟩, HK10⟩
      · have f1 : decide (0 < x.f3.length) = true := decide_eq_true (by omega)
        have HI2 := Aside0.mk (HIn.out.trans (if_neg h0))
        clear h0
        go_wp2_with fail
        refine (bu_byte w0 b _ 32 _ (HB.out.alloc _) (by have := HZ.out; simp only [List.length_append]; omega)).mono ?_
        rintro e w9 ⟨rfl, hb9, hk9⟩
        have HB9 := Aside0.mk hb9
        have HK9 := Aside0.mk ((HKW.out.alloc _).trans hk9)
        have BK9 := Aside0.mk (kept_block hk9 (blk_new wr _) HNE.out)
        clear hb9 hk9 x0 x1 x2 x3
        have n3 := (blk_cell BK9.out 3).trans rfl
        go_wp2_with fail
        refine (bu_byte w0 b _ 40 _ HB9.out (by have := HZ.out; rw [HI2.out] at this; simp only [List.length_append, List.length_cons, List.length_nil] at this ⊢; omega)).mono ?_
        rintro e w11 ⟨rfl, hb11, hk11⟩
        have HB11 := Aside0.mk hb11
        have HK11 := Aside0.mk (HK9.out.trans hk11)
        have BK11 := Aside0.mk (kept_block hk11 BK9.out HNE.out)
        clear hb11 hk11 n3
        have n0 := (blk_cell BK11.out 0).trans rfl
        have n1 := (blk_cell BK11.out 1).trans rfl
        have n2 := (blk_cell BK11.out 2).trans rfl
        have n3 := (blk_cell BK11.out 3).trans rfl
        go_wp2_with fail
        refine (ih.out x A c w0 w11 b _ HC.out HLc.out HG.out HTb.out HB11.out (by have := HZ.out; rw [HI2.out] at this; simp only [List.length_append, List.length_cons, List.length_nil] at this ⊢; omega)).mono ?_
        rintro e w10 ⟨rfl, hb10, hk10⟩
        have HB10 := Aside0.mk hb10
        have HK10 := Aside0.mk (HK11.out.trans hk10)
        have BK10 := Aside0.mk (kept_block hk10 BK11.out HNE.out)
        clear hb10 hk10 n0 n1 n2 n3
        have n3 := (blk_cell BK10.out 3).trans rfl
        go_wp2_with fail
        refine (bu_byte w0 b _ 41 _ HB10.out (by have := HZ.out; rw [HI2.out] at this; simp only [List.length_append, List.length_cons, List.length_nil] at this ⊢; omega)).mono ?_
        rintro e w12 ⟨rfl, hb12, hk12⟩
        have HB12 := Aside0.mk hb12
        have HK12 := Aside0.mk (HK10.out.trans hk12)
        clear hb12 hk12 n3
        go_wp2_with fail
        go_roundg (v.f3.length - (i + 1).toNat)
        case measure => have := HI.out; have := HLT.out; have := P0.out; omega
        case rel => exact ⟨i + 1, by rw [HW.out], ⟨by have := P0.out; omega, by have := HLT.out; omega, by omega⟩, ⟨by rw [HF.out, HI2.out]; have := HB12.out; simpa using this⟩, HK12⟩
    · have d1 : decide (i < (v.f3.length : Int)) = false := decide_eq_false hlt
      have HE := Aside0.mk (show Bu w0 b (l ++ (hd ++ v.f3.flatMap fun k => 32 :: inn n k)) wr by
        have h := HB.out
        rwa [List.take_of_length_le (by have := HI.out; omega), List.append_assoc] at h)
      clear hlt
      go_wp2
      go_end0
      exact ⟨rfl, HE.out, HKW.out⟩
set_option maxHeartbeats 8000000 in
theorem write_con (n : Nat) (ih0 : WriteAt n) (v : S38) (A3 : Option Addr) (c3 : Nat) (w0 W : World) (b : Nat) (l : List UInt8) (hr : Kd.C k38 w0 A3 v.f3.length v.f3) (hc : v.f3.length ≤ c3) (hg : Good (n + 1) v) (ht : Tab w0) (hB : Bu w0 b l W) (hl0 : l.length + (txt (n + 1) v).length ≤ 1000000) (h2 : v.f0 ≠ 2) (h3 : v.f0 ≠ 3) (h4 : v.f0 ≠ 4) :
    Calls Tryz.prog 51 #[.pointer (some ⟨b, 0, none⟩), val38 v A3 c3] W fun e w' => e = .returned (.tuple #[]) ∧ Bu w0 b (l ++ txt (n + 1) v) w' ∧ Lib.OthersKept 5 (some b) W w' := by
  have ih := Aside0.mk ih0
  have HR := Aside0.mk hr
  have HGd := Aside0.mk hg
  have HTb := Aside0.mk ht
  have HNl := Aside0.mk (show v.f3.length ≤ 9223372036854775807 from C_len hr)
  have e1 : (v.f0 == 2) = false := by simpa using h2
  have e2 : (v.f0 == 3) = false := by simpa using h3
  have e3 : (v.f0 == 4) = false := by simpa using h4
  have HH : headB v = bs v.f1 := by unfold headB; rw [if_neg h2, if_neg h3, if_neg h4]
  have HT := txt_head n v hg.2.1
  rw [HT] at hl0 ⊢
  have HLe := Aside0.mk hl0
  have HB0 := Aside0.mk hB
  clear ih0 hr hg ht hB HT hl0
  rw [HH] at HLe ⊢
  have hz0 : v.f1.size ≤ 1000000 := by have := HLe.out; rw [← size_bs]; simp only [List.length_append] at this; omega
  clear h2 h3 h4 HH
  obtain ⟨hd, hhd⟩ : ∃ hd, hd = bs v.f1 := ⟨_, rfl⟩
  rw [← hhd] at HLe ⊢
  have HHd := Aside0.mk hhd
  clear hhd
  go_enter Tryz.func51, Tryz.ntmps51
  have HB7 := HB0
  have HCa := Aside0.mk trivial
  go_wp2_with fail
  refine (bu_string w0 b l _ _ (HB7.out.alloc _) (by have := HLe.out; rw [← size_bs]; rw [HHd.out] at this; simp only [List.length_append] at this ⊢; omega)).mono ?_
  rintro e w8 ⟨rfl, hb8, hk8⟩
  have HB8 := Aside0.mk (show Bu w0 b (l ++ hd) w8 by rw [HHd.out]; exact hb8)
  have HK8 := Aside0.mk (((Lib.OthersKept.refl 5 (some b) W).alloc _).trans hk8)
  have BK8 := Aside0.mk (kept_block hk8 (blk_new W _) (by have := HB0.out.lt; omega))
  clear hb8 hk8
  have m3 : w8.cell? ⟨W.heap.size, 3, none⟩ = some (.slice A3 v.f3.length c3) := (blk_cell BK8.out 3).trans rfl
  go_wp2_with fail
  clear HCa
  go_loopg [37] v.f3.length (fun gg s37 wr => ∃ i : Int, s37 = .int .i64 i ∧ Aside0 (0 ≤ i ∧ i ≤ v.f3.length ∧ v.f3.length - i.toNat ≤ gg) ∧ Aside0 (Bu w0 b (l ++ hd ++ (v.f3.take i.toNat).flatMap fun k => 32 :: inn n k) wr) ∧ Aside0 (Lib.OthersKept 5 (some b) W wr))
  case atStart => exact ⟨0, rfl, ⟨by omega, by omega, by omega⟩, ⟨by simpa using HB8.out⟩, HK8⟩
  case round =>
    clear m3 HB8 HK8 BK8
    obtain ⟨i, rfl, HI, HB, HKW⟩ := hrel
    by_cases hlt : i < (v.f3.length : Int)
    · have p0 : 0 ≤ i := HI.out.1
      have d1 : decide (i < (v.f3.length : Int)) = true := decide_eq_true hlt
      have d2 : decide (0 ≤ i) = true := decide_eq_true p0
      obtain ⟨ad, A, c, e0, x0, x1, x2, x3, hl, hC⟩ := at_T38 HR.out i p0 hlt
      cases e0
      replace x0 := (HB.out.2.cell (World.block_lt_of_cell? w0 _ x0)).trans x0
      replace x1 := (HB.out.2.cell (World.block_lt_of_cell? w0 _ x1)).trans x1
      replace x2 := (HB.out.2.cell (World.block_lt_of_cell? w0 _ x2)).trans x2
      replace x3 := (HB.out.2.cell (World.block_lt_of_cell? w0 _ x3)).trans x3
      have HC := Aside0.mk hC
      have HLc := Aside0.mk hl
      clear hC hl
      have HM := Aside0.mk (rd_mem v.f3 i p0 hlt)
      have HF := Aside0.mk (take_flat (fun k => 32 :: inn n k) v.f3 i p0 hlt)
      have HLT := Aside0.mk hlt
      have P0 := Aside0.mk p0
      have HW := Aside0.mk (show wrap64 (i + 1) = i + 1 by have := HNl.out; unfold wrap64; omega)
      have HZ := Aside0.mk (show l.length + hd.length + ((v.f3.take i.toNat).flatMap fun k => 32 :: inn n k).length + (1 + (inn n (rd_T38 v.f3 i)).length) ≤ 1000000 by
        have h1 := HLe.out
        have h3 := HF.out
        have h4 : ((v.f3.take (i + 1).toNat).flatMap fun k => 32 :: inn n k).length ≤ (v.f3.flatMap fun k => 32 :: inn n k).length := by
          conv => rhs; rw [← List.take_append_drop (i + 1).toNat v.f3, List.flatMap_append, List.length_append]
          omega
        rw [h3] at h4
        simp only [List.length_append, List.length_cons] at h1 h4
        omega)
      have HIn := Aside0.mk (show inn n (rd_T38 v.f3 i) = if (rd_T38 v.f3 i).f3.length = 0 then txt n (rd_T38 v.f3 i) else 40 :: (txt n (rd_T38 v.f3 i) ++ [41]) from rfl)
      have HG := Aside0.mk (good_kid HGd.out HM.out)
      have HNE := Aside0.mk (show wr.heap.size ≠ b by have := HB.out.lt; omega)
      generalize hx : rd_T38 v.f3 i = x at *
      generalize hfl : ((v.f3.take i.toNat).flatMap fun k => 32 :: inn n k) = fl at *
      clear hx hfl
      replace hlt := eq_true hlt
      replace p0 := eq_true p0
      by_cases h0 : x.f3.length = 0
      · have f1 : decide (0 < x.f3.length) = false := decide_eq_false (by omega)
        have HI2 := Aside0.mk (HIn.out.trans (if_pos h0))
        clear h0
        go_wp2_with fail
        refine (bu_byte w0 b _ 32 _ (HB.out.alloc _) (by have := HZ.out; simp only [List.length_append]; omega)).mono ?_
        rintro e w9 ⟨rfl, hb9, hk9⟩
        have HB9 := Aside0.mk hb9
        have HK9 := Aside0.mk ((HKW.out.alloc _).trans hk9)
        have BK9 := Aside0.mk (kept_block hk9 (blk_new wr _) HNE.out)
        clear hb9 hk9 x0 x1 x2 x3
        have n0 := (blk_cell BK9.out 0).trans rfl
        have n1 := (blk_cell BK9.out 1).trans rfl
        have n2 := (blk_cell BK9.out 2).trans rfl
        have n3 := (blk_cell BK9.out 3).trans rfl
        go_wp2_with fail
        refine (ih.out x A c w0 w9 b _ HC.out HLc.out HG.out HTb.out HB9.out (by have := HZ.out; rw [HI2.out] at this; simp only [List.length_append, List.length_cons, List.length_nil]; omega)).mono ?_
        rintro e w10 ⟨rfl, hb10, hk10⟩
        have HB10 := Aside0.mk hb10
        have HK10 := Aside0.mk (HK9.out.trans hk10)
        have BK10 := Aside0.mk (kept_block hk10 BK9.out HNE.out)
        clear hb10 hk10 n0 n1 n2 n3
        have n3 := (blk_cell BK10.out 3).trans rfl
        go_wp2_with fail
        go_roundg (v.f3.length - (i + 1).toNat)
        case measure => have := HI.out; have := HLT.out; have := P0.out; omega
        case rel => exact ⟨i + 1, by rw [HW.out], ⟨by have := P0.out; omega, by have := HLT.out; omega, by omega⟩, ⟨by rw [HF.out, HI2.out]; have := HB10.out; simpa using this⟩, HK10⟩
      · have f1 : decide (0 < x.f3.length) = true := decide_eq_true (by omega)
        have HI2 := Aside0.mk (HIn.out.trans (if_neg h0))
        clear h0
        go_wp2_with fail
        refine (bu_byte w0 b _ 32 _ (HB.out.alloc _) (by have := HZ.out; simp only [List.length_append]; omega)).mono ?_
        rintro e w9 ⟨rfl, hb9, hk9⟩
        have HB9 := Aside0.mk hb9
        have HK9 := Aside0.mk ((HKW.out.alloc _).trans hk9)
        have BK9 := Aside0.mk (kept_block hk9 (blk_new wr _) HNE.out)
        clear hb9 hk9 x0 x1 x2 x3
        have n3 := (blk_cell BK9.out 3).trans rfl
        go_wp2_with fail
        refine (bu_byte w0 b _ 40 _ HB9.out (by have := HZ.out; rw [HI2.out] at this; simp only [List.length_append, List.length_cons, List.length_nil] at this ⊢; omega)).mono ?_
        rintro e w11 ⟨rfl, hb11, hk11⟩
        have HB11 := Aside0.mk hb11
        have HK11 := Aside0.mk (HK9.out.trans hk11)
        have BK11 := Aside0.mk (kept_block hk11 BK9.out HNE.out)
        clear hb11 hk11 n3
        have n0 := (blk_cell BK11.out 0).trans rfl
        have n1 := (blk_cell BK11.out 1).trans rfl
        have n2 := (blk_cell BK11.out 2).trans rfl
        have n3 := (blk_cell BK11.out 3).trans rfl
        go_wp2_with fail
        refine (ih.out x A c w0 w11 b _ HC.out HLc.out HG.out HTb.out HB11.out (by have := HZ.out; rw [HI2.out] at this; simp only [List.length_append, List.length_cons, List.length_nil] at this ⊢; omega)).mono ?_
        rintro e w10 ⟨rfl, hb10, hk10⟩
        have HB10 := Aside0.mk hb10
        have HK10 := Aside0.mk (HK11.out.trans hk10)
        have BK10 := Aside0.mk (kept_block hk10 BK11.out HNE.out)
        clear hb10 hk10 n0 n1 n2 n3
        have n3 := (blk_cell BK10.out 3).trans rfl
        go_wp2_with fail
        refine (bu_byte w0 b _ 41 _ HB10.out (by have := HZ.out; rw [HI2.out] at this; simp only [List.length_append, List.length_cons, List.length_nil] at this ⊢; omega)).mono ?_
        rintro e w12 ⟨rfl, hb12, hk12⟩
        have HB12 := Aside0.mk hb12
        have HK12 := Aside0.mk (HK10.out.trans hk12)
        clear hb12 hk12 n3
        go_wp2_with fail
        go_roundg (v.f3.length - (i + 1).toNat)
        case measure => have := HI.out; have := HLT.out; have := P0.out; omega
        case rel => exact ⟨i + 1, by rw [HW.out], ⟨by have := P0.out; omega, by have := HLT.out; omega, by omega⟩, ⟨by rw [HF.out, HI2.out]; have := HB12.out; simpa using this⟩, HK12⟩
    · have d1 : decide (i < (v.f3.length : Int)) = false := decide_eq_false hlt
      have HE := Aside0.mk (show Bu w0 b (l ++ (hd ++ v.f3.flatMap fun k => 32 :: inn n k)) wr by
        have h := HB.out
        rwa [List.take_of_length_le (by have := HI.out; omega), List.append_assoc] at h)
      clear hlt
      go_wp2
      go_end0
      exact ⟨rfl, HE.out, HKW.out⟩
end Go.Proofs.YtdcdfahhlfeifaaGreatDoor.Q

end
section
namespace Go.Proofs.YtdcdfahhlfeifaaGreatDoor.Q
open Go.RowKit Go.Proofs.YtdcdfahhlfeifaaGreatDoorW.PrintWords Go.Proofs.YtdcdfahhlfeifaaGreatDoorW.PrintLast Go.Proofs.YtdcdfahhlfeifaaGreatDoorW.PrintMore
set_option linter.unusedVariables false
theorem write_all : ∀ n, WriteAt n
  | 0 => fun v A3 c3 w0 W b l _ _ hg _ _ _ => by simp [Good, deepF] at hg
  | n + 1 => fun v A3 c3 w0 W b l hr hc hg ht hB hl => by
    have ih := write_all n
    by_cases h2 : v.f0 = 2
    · exact write_int n ih v A3 c3 w0 W b l hr hc hg ht hB hl h2
    by_cases h3 : v.f0 = 3
    · exact write_var n ih v A3 c3 w0 W b l hr hc hg ht hB hl h3
    by_cases h4 : v.f0 = 4
    · exact write_part n ih v A3 c3 w0 W b l hr hc hg ht hB hl h4
    exact write_con n ih v A3 c3 w0 W b l hr hc hg ht hB hl h2 h3 h4
theorem bu_new (w0 W : World) (h : Below w0.heap.size w0 W) : Bu w0 W.heap.size [] (W.alloc (.cells #[.pointer none, .slice none 0 0] 46)) :=
  ⟨.inl ⟨h.size, _, blk_new W _, World.ownsRowF_nil _ _ _ _, by simp [Value.ownBlock]⟩, below_alloc h _⟩
theorem bu_text (w0 : World) (b : Nat) (l : List UInt8) (W : World) (h : Bu w0 b l W) :
    Calls Tryz.prog 21 #[.pointer (some ⟨b, 0, none⟩)] W fun e w' => e = .returned (.string ⟨l.toArray⟩) ∧ Below w0.heap.size w0 w' :=
  (Tryz.Builder_String_any_k w0.heap.size b l W h.1 h.size).mono fun _ _ ⟨he, _, h2, _⟩ => ⟨he, h.2.trans h2⟩
set_option maxHeartbeats 8000000 in
theorem vprint_ok (v : S38) (A3 : Option Addr) (c3 : Nat) (w : World) (hr : Kd.C k38 w A3 v.f3.length v.f3) (hc : v.f3.length ≤ c3) (ht : Tab w) (hv : validF v = 0) :
    Calls Tryz.prog 31 #[val38 v A3 c3] w fun e w' => e = .returned (.tuple #[.string ⟨(txt 40 v).toArray⟩, .int .i64 0]) ∧ Below w.heap.size w w' := by
  have hg := good_valid hv
  have hlen := txt_len 40 v hg.2.1 hg.1
  have hcnt := hg.2.2
  have HV := Aside0.mk (fun W (hW : Below w.heap.size w W) => by have h2 := valid_calls v A3 c3 W (Kd.C_below hr hW) hc; rw [hv] at h2; exact h2)
  have HW := Aside0.mk (fun W b (hB : Bu w b [] W) => write_all 40 v A3 c3 w W b [] hr hc hg ht hB (by simp; omega))
  clear hr ht hv hg hlen hcnt
  generalize txt 40 v = t at *
  go_enter Tryz.func31, Tryz.ntmps31
  go_wp2_with fail
  refine (HV.out _ (below_alloc (Below.refl _ _) _)).mono ?_
  rintro e w7 ⟨rfl, hb7⟩
  have HB7 := Aside0.mk (below_step (below_alloc (Below.refl _ _) _) hb7)
  have BK7 := Aside0.mk (blk_below (blk_new w _) hb7)
  have hz : w.heap.size < w7.heap.size := blk_lt BK7.out
  clear hb7
  have n0 := (blk_cell BK7.out 0).trans rfl
  have n1 := (blk_cell BK7.out 1).trans rfl
  have n2 := (blk_cell BK7.out 2).trans rfl
  have n3 := (blk_cell BK7.out 3).trans rfl
  go_wp2_with fail
  refine (HW.out _ _ (bu_new w w7 HB7.out)).mono ?_
  rintro e w8 ⟨rfl, hb8, hk8⟩
  have HB8 := Aside0.mk hb8
  clear hb8 hk8
  go_wp2_with fail
  refine (bu_text w _ _ w8 HB8.out).mono ?_
  rintro e w9 ⟨rfl, hb9⟩
  go_wp2_with fail
  go_ret2
  exact ⟨by simp, hb9⟩
set_option maxHeartbeats 8000000 in
theorem wtext_arg (v : S38) (A3 : Option Addr) (c3 : Nat) (w : World) (hr : Kd.C k38 w A3 v.f3.length v.f3) (hc : v.f3.length ≤ c3) (ht : Tab w) (hv : validF v = 0) :
    Calls Tryz.prog 19 #[val38 v A3 c3, .bool true] w fun e w' => e = .returned (.string ⟨(inn 40 v).toArray⟩) ∧ Below w.heap.size w w' := by
  have hg := good_valid hv
  have hlen := txt_len 40 v hg.2.1 hg.1
  have hcnt := hg.2.2
  have HV := Aside0.mk (fun W (hW : Below w.heap.size w W) => vprint_ok v A3 c3 W (Kd.C_below hr hW) hc (ht.below hW) hv)
  have HIn := Aside0.mk (show inn 40 v = if v.f3.length = 0 then txt 40 v else 40 :: (txt 40 v ++ [41]) from rfl)
  clear hr ht hv hg
  generalize txt 40 v = t at *
  by_cases h0 : v.f3.length = 0
  · have HI2 := Aside0.mk (HIn.out.trans (if_pos h0))
    have e1 : decide (0 < v.f3.length) = false := decide_eq_false (by omega)
    have e2 : decide ((v.f3.length : Int) > 0) = false := decide_eq_false (by omega)
    clear h0
    go_enter Tryz.func19, Tryz.ntmps19
    go_wp2_with fail
    refine (HV.out _ (below_alloc (Below.refl _ _) _)).mono ?_
    rintro e w7 ⟨rfl, hb7⟩
    have BK7 := Aside0.mk (blk_below (blk_new w _) hb7)
    have HB7 := Aside0.mk (below_step (below_alloc (Below.refl _ _) _) hb7)
    clear hb7
    have n3 := (blk_cell BK7.out 3).trans rfl
    go_wp2_with fail
    go_ret
    exact ⟨by rw [HI2.out]; rfl, HB7.out⟩
  · have HI2 := Aside0.mk (HIn.out.trans (if_neg h0))
    have e1 : decide (0 < v.f3.length) = true := decide_eq_true (by omega)
    have e2 : decide ((v.f3.length : Int) > 0) = true := decide_eq_true (by omega)
    clear h0
    go_enter Tryz.func19, Tryz.ntmps19
    go_wp2_with fail
    refine (HV.out _ (below_alloc (Below.refl _ _) _)).mono ?_
    rintro e w7 ⟨rfl, hb7⟩
    have BK7 := Aside0.mk (blk_below (blk_new w _) hb7)
    have HB7 := Aside0.mk (below_step (below_alloc (Below.refl _ _) _) hb7)
    clear hb7
    have n3 := (blk_cell BK7.out 3).trans rfl
    go_wp2_with fail
    go_ret
    exact ⟨congrArg (fun s => Ending.returned (Value.string s)) (bs_ext (by rw [bs_append, bs_append, HI2.out, bs_mk, bs_mk]; rfl)), HB7.out⟩
set_option maxHeartbeats 8000000 in
theorem wtext_bare (v : S38) (A3 : Option Addr) (c3 : Nat) (w : World) (hr : Kd.C k38 w A3 v.f3.length v.f3) (hc : v.f3.length ≤ c3) (ht : Tab w) (hv : validF v = 0) :
    Calls Tryz.prog 19 #[val38 v A3 c3, .bool false] w fun e w' => e = .returned (.string ⟨(txt 40 v).toArray⟩) ∧ Below w.heap.size w w' := by
  have HV := Aside0.mk (fun W (hW : Below w.heap.size w W) => vprint_ok v A3 c3 W (Kd.C_below hr hW) hc (ht.below hW) hv)
  clear hr ht hv
  generalize txt 40 v = t at *
  go_enter Tryz.func19, Tryz.ntmps19
  go_wp2_with fail
  refine (HV.out _ (below_alloc (Below.refl _ _) _)).mono ?_
  rintro e w7 ⟨rfl, hb7⟩
  have HB7 := Aside0.mk (below_step (below_alloc (Below.refl _ _) _) hb7)
  clear hb7
  go_wp2_with fail
  go_ret
  exact ⟨rfl, HB7.out⟩
end Go.Proofs.YtdcdfahhlfeifaaGreatDoor.Q

end
section
namespace Go.Proofs.YtdcdfahhlfeifaaGreatDoor.Q
open Go.RowKit Go.Proofs.YtdcdfahhlfeifaaGreatDoorW.PrintWords Go.Proofs.YtdcdfahhlfeifaaGreatDoorW.PrintLast Go.Proofs.YtdcdfahhlfeifaaGreatDoorW.PrintMore
set_option linter.unusedVariables false
theorem firstErr_zero : ∀ (l : List S38), firstErr l = 0 → ∀ v ∈ l, validF v = 0
  | [], _, _, h => by cases h
  | v :: l, h, x, hx => by
    simp only [firstErr] at h
    by_cases hv : validF v = 0
    · rw [if_pos hv] at h
      rcases List.mem_cons.1 hx with rfl | hx
      · exact hv
      · exact firstErr_zero l h x hx
    · rw [if_neg hv] at h; exact absurd h hv
theorem sights_right (l : List S40) (h : sightsF l = 0) : l.length ≤ 400 ∧ (l.all (sightB l.length) = true) ∧ (∀ s ∈ l, ∃ m, ups l (l.length + 1) s.f3 = some m) ∧ (∀ s ∈ l, (∀ v ∈ s.f1, validF v = 0) ∧ validF s.f2 = 0) := by
  unfold sightsF at h
  split at h
  · cases h
  · split at h
    · split at h
      · rename_i h1 h2 h3
        refine ⟨by omega, h2, fun s hs => ?_, fun s hs => ?_⟩
        · have := List.all_eq_true.1 h3 s hs
          exact Option.isSome_iff_exists.1 this
        · have hz := firstErr_zero _ h
          exact ⟨fun v hv => hz v (List.mem_flatMap.2 ⟨s, hs, by simp [hv]⟩), hz _ (List.mem_flatMap.2 ⟨s, hs, by simp⟩)⟩
      · cases h
    · cases h
theorem valid_len {v : S38} (h : validF v = 0) : (txt 40 v).length ≤ 6000 ∧ (inn 40 v).length ≤ 6002 := by
  have hg := good_valid h
  have h1 := txt_len 40 v hg.2.1 hg.1
  have h2 := hg.2.2
  have h3 : (txt 40 v).length ≤ 6000 := by omega
  refine ⟨h3, ?_⟩
  unfold inn
  split
  · omega
  · simp; omega
theorem ups_le (l : List S40) : ∀ (n : Nat) (k : Int) (m : Nat), ups l n k = some m → m ≤ n
  | 0, k, m, h => by
    simp only [ups] at h
    split at h
    · cases h; omega
    · cases h
  | n + 1, k, m, h => by
    simp only [ups] at h
    split at h
    · cases h; omega
    · cases hu : ups l n (rd_T40 l k).f3 with
      | none => rw [hu] at h; cases h
      | some j =>
        rw [hu] at h
        have := ups_le l n _ j hu
        have h2 : j + 1 = m := Option.some.inj h
        omega
theorem flat_le (f : S38 → List UInt8) (c : Nat) : ∀ (l : List S38), (∀ x ∈ l, (f x).length ≤ c) → (l.flatMap f).length ≤ c * l.length
  | [], _ => by simp
  | v :: l, h => by
    have h1 := h v (by simp)
    have h2 := flat_le f c l fun x hx => h x (by simp [hx])
    rw [List.flatMap_cons, List.length_append, List.length_cons, Nat.mul_add]; omega
theorem flat_le40 (f : S40 → List UInt8) (c : Nat) : ∀ (l : List S40), (∀ x ∈ l, (f x).length ≤ c) → (l.flatMap f).length ≤ c * l.length
  | [], _ => by simp
  | v :: l, h => by
    have h1 := h v (by simp)
    have h2 := flat_le40 f c l fun x hx => h x (by simp [hx])
    rw [List.flatMap_cons, List.length_append, List.length_cons, Nat.mul_add]; omega
theorem sightB_name {n : Nat} {s : S40} (h : sightB n s = true) : (bs s.f0).length ≤ 16 := by
  simp only [sightB, Bool.and_eq_true] at h
  exact core_len _ h.1.1.1
theorem line_len (l : List S40) (h : sightsF l = 0) (s : S40) (hs : s ∈ l) : (line l s).length ≤ 60000 := by
  obtain ⟨h1, h2, h3, h4⟩ := sights_right l h
  have hb := List.all_eq_true.1 h2 s hs
  have h5 := sightB_name hb
  have h6 := sightB_args hb
  obtain ⟨m, hm⟩ := h3 s hs
  have h7 := ups_le l _ _ _ hm
  have h8 := (valid_len (h4 s hs).2).1
  have h9 := flat_le (fun a => 32 :: inn 40 a) 6003 s.f1 fun x hx => by have := (valid_len ((h4 s hs).1 x hx)).2; simp; omega
  unfold line
  rw [hm]
  simp only [List.length_append, List.length_replicate, List.length_cons, List.length_nil, Option.getD_some]
  omega
theorem take_flat40 (f : S40 → List UInt8) (l : List S40) (i : Int) (h0 : 0 ≤ i) (h : i < l.length) : (l.take (i + 1).toNat).flatMap f = (l.take i.toNat).flatMap f ++ f (rd_T40 l i) := by
  obtain ⟨hi, e⟩ := rd_T40_at l i h0 h
  rw [show (i + 1).toNat = i.toNat + 1 by omega, List.take_succ_eq_append_getElem hi, List.flatMap_append, e]
  simp
theorem rd_mem40 (l : List S40) (i : Int) (h0 : 0 ≤ i) (h : i < l.length) : rd_T40 l i ∈ l := by
  obtain ⟨hi, e⟩ := rd_T40_at l i h0 h
  rw [e]; exact List.getElem_mem hi
theorem kept_any {b k : Nat} {cs : Array Value} {t : TypeId} {W W' : World} (h : Lib.OthersKept 5 (some b) W W') (hk : W.heap[k]? = some (.cells cs t (0, 0))) (hne : k ≠ b) (ht : t ≠ 5) : W'.heap[k]? = some (.cells cs t (0, 0)) :=
  h k _ hk (fun e => hne (Option.some.inj e)) (fun c fz e => by injection e with e1 e2 e3; exact ht e2)
theorem ups_pos (l : List S40) (n : Nat) (k : Int) (m : Nat) (h0 : 0 ≤ k) (h : ups l n k = some m) : ∃ n' m', n = n' + 1 ∧ m = m' + 1 ∧ ups l n' (rd_T40 l k).f3 = some m' := by
  cases n with
  | zero => simp only [ups] at h; rw [if_neg (by omega)] at h; cases h
  | succ n' =>
    simp only [ups] at h; rw [if_neg (by omega)] at h
    cases hu : ups l n' (rd_T40 l k).f3 with
    | none => rw [hu] at h; cases h
    | some j => rw [hu] at h; exact ⟨n', j, rfl, (Option.some.inj h).symm, hu⟩
theorem ups_negm (l : List S40) (n : Nat) (k : Int) (m : Nat) (h0 : k < 0) (h : ups l n k = some m) : m = 0 := by
  cases n <;> simp only [ups] at h <;> rw [if_pos h0] at h <;> cases h <;> rfl
theorem bs_mk2 : bs ⟨#[32, 32]⟩ = [32, 32] := rfl
theorem rep_two (j : Nat) : List.replicate (2 * (j + 1)) (32 : UInt8) = List.replicate (2 * j) 32 ++ [32, 32] := by
  rw [Nat.mul_add, ← List.replicate_append_replicate]; rfl
set_option maxHeartbeats 16000000 in
set_option maxRecDepth 100000 in
theorem print_ok (A0 : Option Addr) (c0 : Nat) (l : List S40) (w : World) (hr0 : Kd.C k40 w A0 l.length l) (hc0 : l.length ≤ c0) (ht : Tab w) (hs : sightsF l = 0) :
    Calls Tryz.prog 10 #[.slice A0 l.length c0] w fun e w' => e = .returned (.tuple #[.string (printF l).1, .int .i64 (printF l).2]) ∧ Below w.heap.size w w' := by
  obtain ⟨h400, hall, hups, hval⟩ := sights_right l hs
  have HS := Aside0.mk (show Calls Tryz.prog 14 #[.slice A0 l.length c0] w fun e w' => e = .returned (.int .i64 0) ∧ Below w.heap.size w w' by have h2 := sights_calls A0 c0 l w hr0 hc0; rw [hs] at h2; exact h2)
  have HR0 := Aside0.mk hr0
  have HT := Aside0.mk ht
  have H4 := Aside0.mk h400
  have HA := Aside0.mk hall
  have HU := Aside0.mk hups
  have HV := Aside0.mk hval
  have HLl := Aside0.mk (line_len l hs)
  have HP := Aside0.mk (show printF l = if 20000 < (l.flatMap (line l)).length then (⟨#[]⟩, 3) else (⟨(l.flatMap (line l)).toArray⟩, 0) by unfold printF; rw [if_pos hs])
  have HTot := Aside0.mk (flat_le40 (line l) 60000)
  clear hr0 hc0 ht h400 hall hups hval hs
  go_enter Tryz.func10, Tryz.ntmps10
  go_wp2_with fail
  refine HS.out.mono ?_
  rintro e w6 ⟨rfl, hb6⟩
  have HB6 := Aside0.mk hb6
  clear hb6 HS
  have hbn := Aside0.mk (bu_new w w6 HB6.out)
  generalize hb0 : w6.heap.size = b at *
  go_wp2_with fail
  clear hb0
  go_loopg [18] l.length (fun gg s18 wr => ∃ i : Int, s18 = .int .i64 i ∧ Aside0 (0 ≤ i ∧ i ≤ l.length ∧ l.length - i.toNat ≤ gg) ∧ Aside0 (Bu w b ((l.take i.toNat).flatMap (line l)) wr))
  case atStart => exact ⟨0, rfl, ⟨by omega, by omega, by omega⟩, ⟨by simpa using hbn.out⟩⟩
  case round =>
    clear hbn HB6
    obtain ⟨i, rfl, HI, HB⟩ := hrel
    obtain ⟨wo, rfl⟩ : ∃ wo : World, wo = wr := ⟨_, rfl⟩
    by_cases hlt : i < (l.length : Int)
    · have p0 : 0 ≤ i := HI.out.1
      have d1 : decide (i < (l.length : Int)) = true := decide_eq_true hlt
      have d2 : decide (0 ≤ i) = true := decide_eq_true p0
      obtain ⟨ad, A1, c1, A5, c5, e0, x0, x1, x2, x3, x4, x5, x6, hl1, hi1, hl5, hi5⟩ := at_T40 HR0.out i p0 hlt
      cases e0
      replace x0 := (HB.out.2.cell (World.block_lt_of_cell? w _ x0)).trans x0
      replace x1 := (HB.out.2.cell (World.block_lt_of_cell? w _ x1)).trans x1
      replace x2 := (HB.out.2.cell (World.block_lt_of_cell? w _ x2)).trans x2
      replace x3 := (HB.out.2.cell (World.block_lt_of_cell? w _ x3)).trans x3
      replace x4 := (HB.out.2.cell (World.block_lt_of_cell? w _ x4)).trans x4
      replace x5 := (HB.out.2.cell (World.block_lt_of_cell? w _ x5)).trans x5
      replace x6 := (HB.out.2.cell (World.block_lt_of_cell? w _ x6)).trans x6
      have HC1 := Aside0.mk hi1
      have HC5 := Aside0.mk hi5
      have HL1 := Aside0.mk hl1
      have HL5 := Aside0.mk hl5
      clear hi1 hi5 hl1 hl5
      have HM := rd_mem40 l i p0 hlt
      have HLn := Aside0.mk (HLl.out _ HM)
      have HSb := Aside0.mk (rd_all _ l i p0 hlt HA.out)
      have HUp := Aside0.mk (HU.out _ HM)
      have HVl := Aside0.mk (HV.out _ HM)
      have HF := Aside0.mk (take_flat40 (line l) l i p0 hlt)
      have HTk := Aside0.mk (show ((l.take i.toNat).flatMap (line l)).length ≤ 60000 * 400 by
        have h1 := HTot.out (l.take i.toNat) (fun x hx => HLl.out x (List.mem_of_mem_take hx))
        have h2 : (l.take i.toNat).length ≤ 400 := by have := H4.out; simp; omega
        omega)
      have HLT := Aside0.mk hlt
      have P0 := Aside0.mk p0
      have HW := Aside0.mk (show wrap64 (i + 1) = i + 1 by have := H4.out; unfold wrap64; omega)
      have HNE := Aside0.mk (show wo.heap.size ≠ b by have := HB.out.lt; omega)
      have HLine := Aside0.mk (show line l (rd_T40 l i) = List.replicate (2 * (ups l (l.length + 1) (rd_T40 l i).f3).getD 0) 32 ++ bs (rd_T40 l i).f0 ++ ((rd_T40 l i).f1.flatMap fun a => 32 :: inn 40 a) ++ [32, 61, 32] ++ txt 40 (rd_T40 l i).f2 ++ [10] from rfl)
      clear HM
      generalize hsg : rd_T40 l i = s at *
      generalize hacc : (l.take i.toNat).flatMap (line l) = acc at *
      clear hsg hacc
      obtain ⟨u, hu⟩ := HUp.out
      have HUu := Aside0.mk hu
      clear hu HUp
      replace hlt := eq_true hlt
      replace p0 := eq_true p0
      go_wp2_with fail
      have BK := Aside0.mk (blk_new wo (.cells (cells40 s A1 c1 A5 c5) 40 (0, 0)))
      clear x0 x1 x2 x3 x4 x5 x6
      go_loopg [8] (l.length + 1) (fun gg s8 wx => ∃ (k : Int) (m j : Nat), s8 = .int .i64 k ∧ Aside0 (-1 ≤ k ∧ k < l.length) ∧ Aside0 (ups l gg k = some m ∧ m + j = u) ∧ Aside0 (Bu w b (acc ++ List.replicate (2 * j) 32) wx) ∧ Aside0 (wx.heap[wo.heap.size]? = some (.cells (cells40 s A1 c1 A5 c5) 40 (0, 0))))
      case atStart => exact ⟨s.f3, u, 0, rfl, ⟨sightB_up HSb.out⟩, ⟨HUu.out, rfl⟩, ⟨by simpa using HB.out.alloc _⟩, BK⟩
      case round =>
        clear BK HB
        obtain ⟨k, m, j, rfl, HK, HUk, HB, BK⟩ := hrel
        by_cases k0 : 0 ≤ k
        · obtain ⟨g', m', hg', hm', hu'⟩ := ups_pos l _ k m k0 HUk.out.1
          subst hg'
          have HU' := Aside0.mk hu'
          have HJ := Aside0.mk (show m' + (j + 1) = u by have := HUk.out.2; omega)
          have HUL := Aside0.mk (show u ≤ l.length + 1 from ups_le l _ _ _ HUu.out)
          clear hm' hu'
          have klt := HK.out.2
          obtain ⟨ad2, A1', c1', A5', c5', e0, x0, x1, x2, x3, x4, x5, x6, hl1, hi1, hl5, hi5⟩ := at_T40 HR0.out k k0 klt
          cases e0
          have X6 := Aside0.mk x6
          clear x0 x1 x2 x3 x4 x5 x6 hl1 hi1 hl5 hi5
          have K0 := Aside0.mk k0
          have KLT := Aside0.mk klt
          have d3 : decide (0 ≤ k) = true := decide_eq_true k0
          have d4 : decide (k < (l.length : Int)) = true := decide_eq_true klt
          replace k0 := eq_true k0
          replace klt := eq_true klt
          go_wp2_with fail
          refine (bu_string w b _ _ _ HB.out (by have := HTk.out; have := HJ.out; have := HUL.out; have := H4.out; rw [← size_bs, bs_mk2]; simp only [List.length_append, List.length_replicate, List.length_cons, List.length_nil]; omega)).mono ?_
          rintro e w9 ⟨rfl, hb9, hk9⟩
          have HB9 := Aside0.mk hb9
          have BK9 := Aside0.mk (kept_any hk9 BK.out HNE.out (by decide))
          clear hb9 hk9
          have x6 := (HB9.out.2.cell (World.block_lt_of_cell? w _ X6.out)).trans X6.out
          go_wp2_with fail
          go_roundg g'
          case measure => exact Nat.lt_succ_self _
          case rel => exact ⟨_, m', j + 1, rfl, ⟨sightB_up (rd_all _ l k K0.out KLT.out HA.out)⟩, ⟨HU'.out, HJ.out⟩, ⟨by have h := HB9.out; rw [bs_mk2, List.append_assoc, ← rep_two] at h; exact h⟩, BK9⟩
        · have hm := ups_negm l _ k m (by omega) HUk.out.1
          subst hm
          have HJ := Aside0.mk (show j = u by have := HUk.out.2; omega)
          have HUL := Aside0.mk (show u ≤ l.length + 1 from ups_le l _ _ _ HUu.out)
          have HNm := Aside0.mk (sightB_name HSb.out)
          have HAr := Aside0.mk (sightB_args HSb.out)
          have d3 : decide (0 ≤ k) = false := decide_eq_false k0
          have HBr := Aside0.mk (show Bu w b (acc ++ List.replicate (2 * u) 32) wr by have h := HB.out; rwa [HJ.out] at h)
          clear k0 HB HJ HUk HK
          have n0 := (blk_cell BK.out 0).trans rfl
          go_wp2_with fail
          refine (bu_string w b _ _ _ HBr.out (by have := HTk.out; have := HUL.out; have := H4.out; have := HNm.out; rw [← size_bs]; simp only [List.length_append, List.length_replicate]; omega)).mono ?_
          rintro e w9 ⟨rfl, hb9, hk9⟩
          have HB9 := Aside0.mk hb9
          have BK9 := Aside0.mk (kept_any hk9 BK.out HNE.out (by decide))
          clear hb9 hk9 n0
          have n1 := (blk_cell BK9.out 1).trans rfl
          have HPre := Aside0.mk (show (acc ++ List.replicate (2 * u) 32 ++ bs s.f0).length ≤ 24010000 by have := HTk.out; have := HUL.out; have := H4.out; have := HNm.out; simp only [List.length_append, List.length_replicate]; omega)
          obtain ⟨pre, hpre⟩ : ∃ pre, pre = acc ++ List.replicate (2 * u) 32 ++ bs s.f0 := ⟨_, rfl⟩
          rw [← hpre] at HB9 HPre
          have HPr := Aside0.mk hpre
          clear hpre
          go_wp2_with fail
          clear n1
          go_loopg [38] s.f1.length (fun gg s38 wy => ∃ j : Int, s38 = .int .i64 j ∧ Aside0 (0 ≤ j ∧ j ≤ s.f1.length ∧ s.f1.length - j.toNat ≤ gg) ∧ Aside0 (Bu w b (pre ++ (s.f1.take j.toNat).flatMap fun a => 32 :: inn 40 a) wy) ∧ Aside0 (wy.heap[wo.heap.size]? = some (.cells (cells40 s A1 c1 A5 c5) 40 (0, 0))))
          case atStart => exact ⟨0, rfl, ⟨by omega, by omega, by omega⟩, ⟨by simpa using HB9.out⟩, BK9⟩
          case round =>
            clear HB9 BK9 BK HBr
            obtain ⟨j, rfl, HJ, HB, BK⟩ := hrel
            have HTk2 := Aside0.mk (show ((s.f1.take j.toNat).flatMap fun a => 32 :: inn 40 a).length ≤ 48024 by
              have h1 := flat_le (fun a => 32 :: inn 40 a) 6003 (s.f1.take j.toNat) fun x hx => by have := (valid_len (HVl.out.1 x (List.mem_of_mem_take hx))).2; simp; omega
              have h2 : (s.f1.take j.toNat).length ≤ 8 := by have := HAr.out; simp; omega
              omega)
            by_cases jlt : j < (s.f1.length : Int)
            · have j0 : 0 ≤ j := HJ.out.1
              have d3 : decide (j < (s.f1.length : Int)) = true := decide_eq_true jlt
              have d4 : decide (0 ≤ j) = true := decide_eq_true j0
              obtain ⟨ad2, A, c, e0, x0, x1, x2, x3, hl, hC⟩ := at_T38 HC1.out j j0 jlt
              cases e0
              replace x0 := (HB.out.2.cell (World.block_lt_of_cell? w _ x0)).trans x0
              replace x1 := (HB.out.2.cell (World.block_lt_of_cell? w _ x1)).trans x1
              replace x2 := (HB.out.2.cell (World.block_lt_of_cell? w _ x2)).trans x2
              replace x3 := (HB.out.2.cell (World.block_lt_of_cell? w _ x3)).trans x3
              have HC := Aside0.mk hC
              have HLc := Aside0.mk hl
              clear hC hl
              have hv := HVl.out.1 _ (rd_mem s.f1 j j0 jlt)
              have HVx := Aside0.mk hv
              have hin := (valid_len hv).2
              have HFl := Aside0.mk (take_flat (fun a => 32 :: inn 40 a) s.f1 j j0 jlt)
              have JLT := Aside0.mk jlt
              have J0 := Aside0.mk j0
              have HWj := Aside0.mk (show wrap64 (j + 1) = j + 1 by have := HAr.out; unfold wrap64; omega)
              have HWt := Aside0.mk (fun W (hW : Below w.heap.size w W) => wtext_arg (rd_T38 s.f1 j) A c W (Kd.C_below HC.out hW) HLc.out (HT.out.below hW) HVx.out)
              clear hv
              generalize inn 40 (rd_T38 s.f1 j) = t at *
              generalize rd_T38 s.f1 j = x at *
              replace jlt := eq_true jlt
              replace j0 := eq_true j0
              go_wp2_with fail
              refine (HWt.out _ (below_alloc HB.out.2 _)).mono ?_
              rintro e w11 ⟨rfl, hb11⟩
              have HB11 := Aside0.mk ((HB.out.alloc _).below hb11)
              have BK11 := Aside0.mk (blk_below (blk_alloc BK.out _) hb11)
              clear hb11 x0 x1 x2 x3
              go_wp2_with fail
              refine (bu_string w b _ _ _ HB11.out (by have := HPre.out; have := HTk2.out; rw [← size_bs, bs_append]; simp only [List.length_append, show ∀ (t : List UInt8), (bs ⟨t.toArray⟩).length = t.length from fun t => by rw [bs_mk]]; show _ + (1 + _) ≤ _; omega)).mono ?_
              rintro e w12 ⟨rfl, hb12, hk12⟩
              have HB12 := Aside0.mk hb12
              have BK12 := Aside0.mk (kept_any hk12 BK11.out HNE.out (by decide))
              clear hb12 hk12
              go_wp2_with fail
              go_roundg (s.f1.length - (j + 1).toNat)
              case measure => have := HJ.out; have := JLT.out; have := J0.out; omega
              case rel => exact ⟨j + 1, by rw [HWj.out], ⟨by have := J0.out; omega, by have := JLT.out; omega, by omega⟩, ⟨by have h := HB12.out; rw [bs_append, bs_mk, List.append_assoc] at h; rw [HFl.out]; exact h⟩, BK12⟩
            · have d3 : decide (j < (s.f1.length : Int)) = false := decide_eq_false jlt
              have hv := HVl.out.2
              have htl := (valid_len hv).1
              have HE := Aside0.mk (show Bu w b (pre ++ s.f1.flatMap fun a => 32 :: inn 40 a) wr by
                have h := HB.out
                rwa [List.take_of_length_le (by have := HJ.out; omega)] at h)
              have HTl := Aside0.mk (show (s.f1.flatMap fun a => 32 :: inn 40 a).length ≤ 48024 by
                have h := HTk2.out
                rwa [List.take_of_length_le (by have := HJ.out; omega)] at h)
              have HWt := Aside0.mk (fun W (hW : Below w.heap.size w W) => wtext_bare s.f2 A5 c5 W (Kd.C_below HC5.out hW) HL5.out (HT.out.below hW) hv)
              have HLi2 := Aside0.mk (show acc ++ line l s = pre ++ (s.f1.flatMap fun a => 32 :: inn 40 a) ++ ([32, 61, 32] ++ txt 40 s.f2 ++ [10]) by
                rw [HLine.out, HPr.out, HUu.out]; simp)
              clear hv jlt
              generalize txt 40 s.f2 = t at *
              have n2 := (blk_cell BK.out 2).trans rfl
              have n3 := (blk_cell BK.out 3).trans rfl
              have n4 := (blk_cell BK.out 4).trans rfl
              have n5 := (blk_cell BK.out 5).trans rfl
              go_wp2_with fail
              refine (HWt.out _ HE.out.2).mono ?_
              rintro e w11 ⟨rfl, hb11⟩
              have HB11 := Aside0.mk (HE.out.below hb11)
              clear hb11 n2 n3 n4 n5
              go_wp2_with fail
              refine (bu_string w b _ _ _ HB11.out (by have := HPre.out; have := HTl.out; rw [← size_bs, bs_append, bs_append]; simp only [List.length_append, show ∀ (t : List UInt8), (bs ⟨t.toArray⟩).length = t.length from fun t => by rw [bs_mk]]; show _ + (3 + _ + 1) ≤ _; omega)).mono ?_
              rintro e w12 ⟨rfl, hb12, hk12⟩
              have HB12 := Aside0.mk hb12
              clear hb12 hk12
              go_wp2_with fail
              go_roundg (l.length - (i + 1).toNat)
              case measure => have := HI.out; have := HLT.out; have := P0.out; omega
              case rel => exact ⟨i + 1, by rw [HW.out], ⟨by have := P0.out; omega, by have := HLT.out; omega, by omega⟩, ⟨by have h := HB12.out; rw [bs_append, bs_append, bs_mk] at h; rw [HF.out, HLi2.out]; exact h⟩⟩
    · have d1 : decide (i < (l.length : Int)) = false := decide_eq_false hlt
      have HE := Aside0.mk (show Bu w b (l.flatMap (line l)) wo by
        have h := HB.out
        rwa [List.take_of_length_le (by have := HI.out; omega)] at h)
      clear hlt
      generalize l.flatMap (line l) = t at *
      by_cases h2 : 20000 < t.length
      · have HP2 := Aside0.mk (HP.out.trans (if_pos h2))
        have d2 : decide ((20000 : Int) < (t.length : Int)) = true := decide_eq_true (by omega)
        have d3 : decide (20000 < t.length) = true := decide_eq_true h2
        clear h2
        go_wp2_with fail
        refine (bu_len w b t wo HE.out).mono ?_
        rintro e w9 ⟨rfl, rfl⟩
        go_wp2_with fail
        go_ret2
        exact ⟨by rw [HP2.out]; rfl, HE.out.2⟩
      · have HP2 := Aside0.mk (HP.out.trans (if_neg h2))
        have d2 : decide ((20000 : Int) < (t.length : Int)) = false := decide_eq_false (by omega)
        have d3 : decide (20000 < t.length) = false := decide_eq_false h2
        clear h2
        go_wp2_with fail
        refine (bu_len w b t wo HE.out).mono ?_
        rintro e w9 ⟨rfl, rfl⟩
        go_wp2_with fail
        refine (bu_text w b t _ HE.out).mono ?_
        rintro e w9 ⟨rfl, hb9⟩
        go_wp2_with fail
        go_ret2
        exact ⟨by rw [HP2.out]; rfl, hb9⟩
set_option maxHeartbeats 8000000 in
theorem print_calls (A0 : Option Addr) (c0 : Nat) (l0 : List (S40)) (w : World) (hr0 : Kd.C k40 w A0 l0.length l0) (hc0 : l0.length ≤ c0) (ht : Tab w) :
    Calls Tryz.prog 10 #[.slice A0 l0.length c0] w fun e w' => e = .returned (.tuple #[.string (printF l0).1, .int .i64 (printF l0).2]) ∧ Below w.heap.size w w' := by
  by_cases hs : sightsF l0 = 0
  · exact print_ok A0 c0 l0 w hr0 hc0 ht hs
  · have HS := Aside0.mk (sights_calls A0 c0 l0 w hr0 hc0)
    have HP := Aside0.mk (show printF l0 = (⟨#[]⟩, sightsF l0) by unfold printF; rw [if_neg hs])
    generalize sightsF l0 = z at *
    have c4b0 : (z == 0) = false := beq_eq_false_iff_ne.mpr hs
    have c4b1 : (z != 0) = true := bne_iff_ne.mpr hs
    clear hr0 hc0 ht hs
    go_enter Tryz.func10, Tryz.ntmps10
    go_wp2_with fail
    refine HS.out.mono ?_
    rintro e w6 ⟨rfl, hb6⟩
    go_wp2_with fail
    go_ret2
    exact ⟨by rw [HP.out]; rfl, hb6⟩
end Go.Proofs.YtdcdfahhlfeifaaGreatDoor.Q

end
section
namespace Go.Proofs.YtdcdfahhlfeifaaGreatDoor.Q
open Go.RowKit Go.Proofs.YtdcdfahhlfeifaaGreatDoorW.PrintWords Go.Proofs.YtdcdfahhlfeifaaGreatDoorW.PrintLast Go.Proofs.YtdcdfahhlfeifaaGreatDoorW.PrintMore
attribute [local go_sem] max2_int min2_int max_two min_two max_three min_three max_four min_four   -- for this text's walks alone
set_option linter.unusedVariables false
set_option linter.unusedSimpArgs false
def watch_Print.f (l0 : List S40) : Option (ByteArray × Int) := some (printF l0)
theorem watch_Print.calls (A0 : Option Addr) (c0 : Nat) (l0 : List (S40)) (r1 : ByteArray) (r2 : Int) (w : World) (hr0 : Kd.C k40 w A0 l0.length l0) (hc0 : l0.length ≤ c0) (h : watch_Print.f l0 = some (r1, r2)) (ht : Tab w) :
    Calls Tryz.prog 10 #[.slice A0 l0.length c0] w fun e w' => e = .returned (.tuple #[.string r1, .int .i64 r2]) ∧ Below w.heap.size w w' := by
  have h2 : printF l0 = (r1, r2) := Option.some.inj h
  have h3 := print_calls A0 c0 l0 w hr0 hc0 ht
  rw [h2] at h3
  exact h3
end Go.Proofs.YtdcdfahhlfeifaaGreatDoor.Q

end
section
namespace Go.Proofs.YtdcdfahhlfeifaaGreatDoor.Q
open Go.RowKit Go.Proofs.YtdcdfahhlfeifaaGreatDoorW.PrintWords Go.Proofs.YtdcdfahhlfeifaaGreatDoorW.PrintLast Go.Proofs.YtdcdfahhlfeifaaGreatDoorW.PrintMore
attribute [local go_sem] max2_int min2_int max_two min_two max_three min_three max_four min_four   -- for this text's walks alone
set_option linter.unusedVariables false
set_option linter.unusedSimpArgs false
def searchlightref23_inner.f (a0_0 : Int) (a0_1 : ByteArray) (a0_2 : Int) (l0_3 : List (S38)) : Option (ByteArray) := if (l0_3.length : Int) > 0 then ((searchlightref08_Text.f a0_0 a0_1 a0_2 l0_3).bind fun t216 => (if 1 + t216.size ≤ 9223372036854775807 then (if ((⟨#[40]⟩ : ByteArray) ++ t216).size + 1 ≤ 9223372036854775807 then (some (((⟨#[40]⟩ : ByteArray) ++ t216) ++ (⟨#[41]⟩ : ByteArray))) else (none)) else (none))) else ((searchlightref08_Text.f a0_0 a0_1 a0_2 l0_3).bind fun t217 => (some t217))
set_option maxHeartbeats 8000000 in
set_option maxRecDepth 100000 in
theorem searchlightref23_inner.calls (a0_0 : Int) (a0_1 : ByteArray) (a0_2 : Int) (A0_3 : Option Addr) (c0_3 : Nat) (l0_3 : List (S38)) (r : ByteArray) (w : World) (hr0_3 : Kd.C k38 w A0_3 l0_3.length l0_3) (hc0_3 : l0_3.length ≤ c0_3) (h : searchlightref23_inner.f a0_0 a0_1 a0_2 l0_3 = some r) (ht : Tab w) :
    Calls Tryz.prog 23 #[.agg #[.int .i64 a0_0, .string a0_1, .int .i64 a0_2, .slice A0_3 l0_3.length c0_3]] w fun e w' => e = .returned (.string r) ∧ Below w.heap.size w w' := by
  have HT := Aside0.mk ht
  clear ht
  have hu38 := Tryz.underlying38
  have HR0_3 := Aside0.mk hr0_3
  have HC0_3 := Aside0.mk hc0_3
  clear hr0_3 hc0_3
  have HB := Aside0.mk (Below.refl w.heap.size w)
  have H : (if (l0_3.length : Int) > 0 then ((searchlightref08_Text.f a0_0 a0_1 a0_2 l0_3).bind fun t216 => (if 1 + t216.size ≤ 9223372036854775807 then (if ((⟨#[40]⟩ : ByteArray) ++ t216).size + 1 ≤ 9223372036854775807 then (some (((⟨#[40]⟩ : ByteArray) ++ t216) ++ (⟨#[41]⟩ : ByteArray))) else (none)) else (none))) else ((searchlightref08_Text.f a0_0 a0_1 a0_2 l0_3).bind fun t217 => (some t217))) = some r := h
  clear h
  by_cases c2 : (l0_3.length : Int) > 0
  · rw [if_pos c2] at H
    have c2b0 : decide (0 < (l0_3.length : Int)) = true := decide_eq_true c2
    have c2b1 : decide (0 < l0_3.length) = true := decide_eq_true (by omega)
    clear c2
    replace H := Option.bind_eq_some_iff.mp H
    obtain ⟨t216, A30, H⟩ := H
    replace H : (if 1 + t216.size ≤ 9223372036854775807 then (if ((⟨#[40]⟩ : ByteArray) ++ t216).size + 1 ≤ 9223372036854775807 then (some (((⟨#[40]⟩ : ByteArray) ++ t216) ++ (⟨#[41]⟩ : ByteArray))) else (none)) else (none)) = some r := H
    have A3 := Aside0.mk A30
    clear A30
    by_cases c4 : 1 + t216.size ≤ 9223372036854775807
    · rw [if_pos c4] at H
      have c4b0 := eq_true c4
      have c4b1 : decide (1 + t216.size ≤ 9223372036854775807) = true := decide_eq_true c4
      try have c4b2 : (9223372036854775807 < 1 + t216.size) = False := eq_false (Nat.not_lt.2 c4)
      by_cases c5 : ((⟨#[40]⟩ : ByteArray) ++ t216).size + 1 ≤ 9223372036854775807
      · rw [if_pos c5] at H
        have c5b0 := eq_true c5
        have c5b1 : decide (((⟨#[40]⟩ : ByteArray) ++ t216).size + 1 ≤ 9223372036854775807) = true := decide_eq_true c5
        try have c5b2 : (9223372036854775807 < ((⟨#[40]⟩ : ByteArray) ++ t216).size + 1) = False := eq_false (Nat.not_lt.2 c5)
        have c5b3 : (9223372036854775807 < 1 + t216.size + 1) = False := eq_false (Nat.not_lt.2 (show 1 + t216.size + 1 ≤ 9223372036854775807 from by have h9 := c5; simp only [size_append'] at h9; exact h9))
        obtain rfl := Option.some.inj H
        go_enter Tryz.func23, Tryz.ntmps23
        go_wp2_with (first | ((with_reducible refine gate_dst (N := 1) rfl ?_); refine box_event ?hg (N := 1) ?hd (cs := #[.int .i64 a0_0, .string a0_1, .int .i64 a0_2, .slice A0_3 l0_3.length c0_3]) (t := 38) ?hr ?_; (case hd => rfl); (case hg => rfl); (case hr => first | (go_simp; done) | (go_simp; rfl)); intro gb215 hg w6 hbox hb; have n0_ := Aside0.mk (below_step (by repeat (first | (with_reducible first | exact HB.out | apply below_alloc | apply pw_below_drewN | apply below_drew1) | exact HB.out)) hb); have n1_ := Aside0.mk (hbox); have n2_ := Aside0.mk ((by rw [hg]; exact (below_size (by repeat (first | (with_reducible first | exact HB.out | apply below_alloc | apply pw_below_drewN | apply below_drew1) | exact HB.out))) : w.heap.size ≤ gb215)); have n3_ := Aside0.mk ((by rw [hg]; exact (below_size (by repeat (first | (with_reducible first | exact HB.out | apply below_alloc | apply pw_below_drewN | apply below_drew1) | exact HB.out))) : w.heap.size ≤ gb215)); clear HB; have HB := n0_; have BK215 := n1_; have GW215 := n2_; have GE215 := n3_; clear n0_ n1_ n2_ n3_; clear hb hbox hg; have hcz7_0 : w6.cell? ⟨gb215, 0, none⟩ = some (.int .i64 a0_0) := (blk_cell BK215.out 0).trans rfl; have hcz7_1 : w6.cell? ⟨gb215, 1, none⟩ = some (.string a0_1) := (blk_cell BK215.out 1).trans rfl; have hcz7_2 : w6.cell? ⟨gb215, 2, none⟩ = some (.int .i64 a0_2) := (blk_cell BK215.out 2).trans rfl; have hcz7_3 : w6.cell? ⟨gb215, 3, none⟩ = some (.slice A0_3 l0_3.length c0_3) := (blk_cell BK215.out 3).trans rfl; have hfz7_0 := blk_frozen BK215.out 0; have hfz7_1 := blk_frozen BK215.out 1; have hfz7_2 := blk_frozen BK215.out 2; have hfz7_3 := blk_frozen BK215.out 3) | ((with_reducible refine gate_callee (f := 24) rfl ?_); refine goesL_ (some 8) rfl rfl Tryz.func24 (by kernel_rfl) rfl #[.agg #[.int .i64 a0_0, .string a0_1, .int .i64 a0_2, .slice A0_3 l0_3.length c0_3]] rfl (by (try simp only [List.map_toArray, List.map_cons, List.map_nil]); first | done | rfl | (simp only [List.length_drop, List.length_take]; rfl)) ?_; (with_reducible refine (searchlightref08_Text.calls a0_0 a0_1 a0_2 _ _ l0_3 t216 _ ?side1 ?side2 A3.out (Tab.below HT.out (by repeat (first | (with_reducible first | exact HB.out | apply below_alloc | apply pw_below_drewN | apply below_drew1 | refine below_set ?_ GE215.out) | exact HB.out)))).mono ?_); (case side1 => repeat (first | exact (Kd.C_below HR0_3.out HB.out) | (with_reducible refine Kd.C_alloc ?_ _) | (with_reducible refine Kd.C_drewN ?_ _) | (with_reducible refine Kd.C_drew ?_))); (case side2 => exact HC0_3.out); rintro e w8 ⟨rfl, hb⟩; refine ⟨_, rfl, ?_⟩; have n0_ := Aside0.mk (blk_below (g := gb215) (o := .cells #[.int .i64 a0_0, .string a0_1, .int .i64 a0_2, .slice A0_3 l0_3.length c0_3] 38 (0, 0)) (by (with_reducible repeat (first | refine blk_drewN ?_ _ | refine blk_drew ?_ | refine blk_alloc ?_ _)); exact BK215.out) hb); have n1_ := Aside0.mk (below_step (by repeat (first | (with_reducible first | exact HB.out | apply below_alloc | apply pw_below_drewN | apply below_drew1 | refine below_set ?_ GE215.out) | exact HB.out)) hb); clear BK215; clear HB; have BK215 := n0_; have HB := n1_; clear n0_ n1_; (try clear hb); (try clear hb2); (try clear hk); (try clear hi)))
        go_ret
        exact ⟨by first | rfl | (simp [errW_none, errW_some] <;> rfl) | (simp [*, errW_none, errW_some] <;> rfl), by repeat (first | (with_reducible first | exact HB.out | apply below_alloc | apply pw_below_drewN | apply below_drew1 | refine below_set ?_ GE215.out) | exact HB.out)⟩
      · rw [if_neg c5] at H
        exact absurd H (by simp)
    · rw [if_neg c4] at H
      exact absurd H (by simp)
  · rw [if_neg c2] at H
    have c2b0 : decide (0 < (l0_3.length : Int)) = false := decide_eq_false c2
    have c2b1 : decide (0 < l0_3.length) = false := decide_eq_false (by omega)
    clear c2
    replace H := Option.bind_eq_some_iff.mp H
    obtain ⟨t217, A90, H⟩ := H
    replace H : (some t217) = some r := H
    have A9 := Aside0.mk A90
    clear A90
    obtain rfl := Option.some.inj H
    go_enter Tryz.func23, Tryz.ntmps23
    go_wp2_with (first | ((with_reducible refine gate_dst (N := 1) rfl ?_); refine box_event ?hg (N := 1) ?hd (cs := #[.int .i64 a0_0, .string a0_1, .int .i64 a0_2, .slice A0_3 l0_3.length c0_3]) (t := 38) ?hr ?_; (case hd => rfl); (case hg => rfl); (case hr => first | (go_simp; done) | (go_simp; rfl)); intro gb215 hg w10 hbox hb; have n0_ := Aside0.mk (below_step (by repeat (first | (with_reducible first | exact HB.out | apply below_alloc | apply pw_below_drewN | apply below_drew1) | exact HB.out)) hb); have n1_ := Aside0.mk (hbox); have n2_ := Aside0.mk ((by rw [hg]; exact (below_size (by repeat (first | (with_reducible first | exact HB.out | apply below_alloc | apply pw_below_drewN | apply below_drew1) | exact HB.out))) : w.heap.size ≤ gb215)); have n3_ := Aside0.mk ((by rw [hg]; exact (below_size (by repeat (first | (with_reducible first | exact HB.out | apply below_alloc | apply pw_below_drewN | apply below_drew1) | exact HB.out))) : w.heap.size ≤ gb215)); clear HB; have HB := n0_; have BK215 := n1_; have GW215 := n2_; have GE215 := n3_; clear n0_ n1_ n2_ n3_; clear hb hbox hg; have hcz11_0 : w10.cell? ⟨gb215, 0, none⟩ = some (.int .i64 a0_0) := (blk_cell BK215.out 0).trans rfl; have hcz11_1 : w10.cell? ⟨gb215, 1, none⟩ = some (.string a0_1) := (blk_cell BK215.out 1).trans rfl; have hcz11_2 : w10.cell? ⟨gb215, 2, none⟩ = some (.int .i64 a0_2) := (blk_cell BK215.out 2).trans rfl; have hcz11_3 : w10.cell? ⟨gb215, 3, none⟩ = some (.slice A0_3 l0_3.length c0_3) := (blk_cell BK215.out 3).trans rfl; have hfz11_0 := blk_frozen BK215.out 0; have hfz11_1 := blk_frozen BK215.out 1; have hfz11_2 := blk_frozen BK215.out 2; have hfz11_3 := blk_frozen BK215.out 3) | ((with_reducible refine gate_callee (f := 24) rfl ?_); refine goesL_ (some 12) rfl rfl Tryz.func24 (by kernel_rfl) rfl #[.agg #[.int .i64 a0_0, .string a0_1, .int .i64 a0_2, .slice A0_3 l0_3.length c0_3]] rfl (by (try simp only [List.map_toArray, List.map_cons, List.map_nil]); first | done | rfl | (simp only [List.length_drop, List.length_take]; rfl)) ?_; (with_reducible refine (searchlightref08_Text.calls a0_0 a0_1 a0_2 _ _ l0_3 t217 _ ?side1 ?side2 A9.out (Tab.below HT.out (by repeat (first | (with_reducible first | exact HB.out | apply below_alloc | apply pw_below_drewN | apply below_drew1 | refine below_set ?_ GE215.out) | exact HB.out)))).mono ?_); (case side1 => repeat (first | exact (Kd.C_below HR0_3.out HB.out) | (with_reducible refine Kd.C_alloc ?_ _) | (with_reducible refine Kd.C_drewN ?_ _) | (with_reducible refine Kd.C_drew ?_))); (case side2 => exact HC0_3.out); rintro e w12 ⟨rfl, hb⟩; refine ⟨_, rfl, ?_⟩; have n0_ := Aside0.mk (blk_below (g := gb215) (o := .cells #[.int .i64 a0_0, .string a0_1, .int .i64 a0_2, .slice A0_3 l0_3.length c0_3] 38 (0, 0)) (by (with_reducible repeat (first | refine blk_drewN ?_ _ | refine blk_drew ?_ | refine blk_alloc ?_ _)); exact BK215.out) hb); have n1_ := Aside0.mk (below_step (by repeat (first | (with_reducible first | exact HB.out | apply below_alloc | apply pw_below_drewN | apply below_drew1 | refine below_set ?_ GE215.out) | exact HB.out)) hb); clear BK215; clear HB; have BK215 := n0_; have HB := n1_; clear n0_ n1_; (try clear hb); (try clear hb2); (try clear hk); (try clear hi)))
    go_ret
    exact ⟨by first | rfl | (simp [errW_none, errW_some] <;> rfl) | (simp [*, errW_none, errW_some] <;> rfl), by repeat (first | (with_reducible first | exact HB.out | apply below_alloc | apply pw_below_drewN | apply below_drew1 | refine below_set ?_ GE215.out) | exact HB.out)⟩
mutual
def searchlightref23_Print.l0 : Nat → List (S40) → ByteArray → Int → Option (ByteArray × Int)
  | 0, _, _, _ => none
  | k + 1, x0, x5, x6 => if x6 < (x0.length : Int) then ((searchlightref23_depth.f k x0 x6).bind fun t219 => (searchlightref23_Print.l1 k x0 x5 x6 t219)) else (some (x5, 0))
def searchlightref23_Print.l1 : Nat → List (S40) → ByteArray → Int → Int → Option (ByteArray × Int)
  | 0, _, _, _, _ => none
  | k + 1, x0, x5, x6, x7 => if x7 > 0 then (if x5.size + 2 ≤ 9223372036854775807 then (searchlightref23_Print.l1 k x0 (x5 ++ (⟨#[32, 32]⟩ : ByteArray)) x6 (wrap64 (x7 - 1))) else (none)) else (if 0 ≤ x6 then (if x6 < (x0.length : Int) then (if x5.size + ((rd_T40 x0 x6).f0).size ≤ 9223372036854775807 then (searchlightref23_Print.l2 k x0 (x5 ++ ((rd_T40 x0 x6).f0)) x6 0) else (none)) else (none)) else (none))
def searchlightref23_Print.l2 : Nat → List (S40) → ByteArray → Int → Int → Option (ByteArray × Int)
  | 0, _, _, _, _ => none
  | k + 1, x0, x5, x6, x8 => if 0 ≤ x6 then (if x6 < (x0.length : Int) then (if x8 < (((rd_T40 x0 x6).f1).length : Int) then (if 0 ≤ x8 then ((searchlightref23_inner.f ((rd_T38 ((rd_T40 x0 x6).f1) x8).f0) ((rd_T38 ((rd_T40 x0 x6).f1) x8).f1) ((rd_T38 ((rd_T40 x0 x6).f1) x8).f2) ((rd_T38 ((rd_T40 x0 x6).f1) x8).f3)).bind fun t224 => (if 1 + t224.size ≤ 9223372036854775807 then (if x5.size + ((⟨#[32]⟩ : ByteArray) ++ t224).size ≤ 9223372036854775807 then (searchlightref23_Print.l2 k x0 (x5 ++ ((⟨#[32]⟩ : ByteArray) ++ t224)) x6 (wrap64 (x8 + 1))) else (none)) else (none))) else (none)) else ((searchlightref08_Text.f ((rd_T40 x0 x6).f2.f0) ((rd_T40 x0 x6).f2.f1) ((rd_T40 x0 x6).f2.f2) ((rd_T40 x0 x6).f2.f3)).bind fun t226 => (if 3 + t226.size ≤ 9223372036854775807 then (if ((⟨#[32, 61, 32]⟩ : ByteArray) ++ t226).size + 1 ≤ 9223372036854775807 then (if x5.size + (((⟨#[32, 61, 32]⟩ : ByteArray) ++ t226) ++ (⟨#[10]⟩ : ByteArray)).size ≤ 9223372036854775807 then (if ((x5 ++ (((⟨#[32, 61, 32]⟩ : ByteArray) ++ t226) ++ (⟨#[10]⟩ : ByteArray))).size : Int) > 20000 then (some ((⟨#[]⟩ : ByteArray), 3)) else (searchlightref23_Print.l0 k x0 (x5 ++ (((⟨#[32, 61, 32]⟩ : ByteArray) ++ t226) ++ (⟨#[10]⟩ : ByteArray))) (wrap64 (x6 + 1)))) else (none)) else (none)) else (none)))) else (none)) else (none)
end
def searchlightref23_Print.f (k : Nat) (l0 : List (S40)) : Option (ByteArray × Int) := (searchlightref23_Right.f k l0).bind fun t218 => (if t218 = 0 then (searchlightref23_Print.l0 k l0 (⟨#[]⟩ : ByteArray) 0) else (some ((⟨#[]⟩ : ByteArray), t218)))
set_option maxHeartbeats 8000000 in
set_option maxRecDepth 100000 in
theorem searchlightref23_Print.calls (k : Nat) (A0 : Option Addr) (c0 : Nat) (l0 : List (S40)) (r1 : ByteArray) (r2 : Int) (w : World) (hr0 : Kd.C k40 w A0 l0.length l0) (hc0 : l0.length ≤ c0) (h : searchlightref23_Print.f k l0 = some (r1, r2)) (ht : Tab w) :
    Calls Tryz.prog 11 #[.slice A0 l0.length c0] w fun e w' => e = .returned (.tuple #[.string r1, .int .i64 r2]) ∧ Below w.heap.size w w' := by
  have HT := Aside0.mk ht
  clear ht
  have hu38 := Tryz.underlying38
  have HR0 := Aside0.mk hr0
  have HC0 := Aside0.mk hc0
  clear hr0 hc0
  have HB := Aside0.mk (Below.refl w.heap.size w)
  have H : ((searchlightref23_Right.f k l0).bind fun t218 => (if t218 = 0 then (searchlightref23_Print.l0 k l0 (⟨#[]⟩ : ByteArray) 0) else (some ((⟨#[]⟩ : ByteArray), t218)))) = some (r1, r2) := h
  clear h
  replace H := Option.bind_eq_some_iff.mp H
  obtain ⟨t218, A20, H⟩ := H
  replace H : (if t218 = 0 then (searchlightref23_Print.l0 k l0 (⟨#[]⟩ : ByteArray) 0) else (some ((⟨#[]⟩ : ByteArray), t218))) = some (r1, r2) := H
  have A2 := Aside0.mk A20
  clear A20
  by_cases c3 : t218 = 0
  · rw [if_pos c3] at H
    have c3b0 : (t218 == 0) = true := beq_iff_eq.mpr c3
    have c3b1 : (t218 != 0) = false := bne_eq_false_iff_eq.mpr c3
    clear c3
    have H' := Aside0.mk H
    clear H
    go_enter Tryz.func11, Tryz.ntmps11
    go_wp2_with (first | ((with_reducible refine gate_callee (f := 16) rfl ?_); refine goesL_ (some 10) rfl rfl Tryz.func16 (by kernel_rfl) rfl #[.slice A0 l0.length c0] rfl (by (try simp only [List.map_toArray, List.map_cons, List.map_nil]); first | done | rfl | (simp only [List.length_drop, List.length_take]; rfl)) ?_; (with_reducible refine (searchlightref23_Right.calls k _ _ l0 t218 _ ?side1 ?side2 A2.out).mono ?_); (case side1 => repeat (first | exact HR0.out | (with_reducible refine Kd.C_alloc ?_ _) | (with_reducible refine Kd.C_drewN ?_ _) | (with_reducible refine Kd.C_drew ?_))); (case side2 => exact HC0.out); rintro e w4 ⟨rfl, hb⟩; refine ⟨_, rfl, ?_⟩; have n0_ := Aside0.mk (below_step (by repeat (first | (with_reducible first | exact HB.out | apply below_alloc | apply pw_below_drewN | apply below_drew1) | exact HB.out)) hb); clear HB; have HB := n0_; clear n0_; (try clear hb); (try clear hb2); (try clear hk); (try clear hi)))
    go_loopg [5, 6] k (fun kq v5 v6 w' => ∃ (x5_1 : ByteArray) (x6_1 : Int), v5 = .string x5_1 ∧ v6 = .int .i64 x6_1 ∧ Aside0 (searchlightref23_Print.l0 kq l0 x5_1 x6_1 = some (r1, r2)) ∧ Aside0 (kq ≤ k) ∧ Aside0 (Below w.heap.size w w'))
    case atStart => exact ⟨((⟨#[]⟩ : ByteArray)), (0), (by first | rfl | (simp; done) | (simp [*]; done)), (by first | rfl | (simp; done) | (simp [*]; done)), H', ⟨Nat.le_refl _⟩, ⟨by repeat (first | (with_reducible first | exact HB.out | apply below_alloc | apply pw_below_drewN | apply below_drew1) | exact HB.out)⟩⟩
    case round =>
      clear H'
      try clear c1
      try clear p2
      try clear c3
      try clear c3b0
      try clear c3b1
      obtain ⟨x5_1, x6_1, rfl, rfl, HA, HK1, HB⟩ := hrel
      cases gk with
      | zero => exact absurd HA.out (by simp [searchlightref23_Print.l0])
      | succ k1 =>
        have H := HA.out
        clear HA
        simp only [searchlightref23_Print.l0] at H
        by_cases c5 : x6_1 < (l0.length : Int)
        · rw [if_pos c5] at H
          have c5b0 : decide (x6_1 < (l0.length : Int)) = true := decide_eq_true c5
          clear c5
          replace H := Option.bind_eq_some_iff.mp H
          obtain ⟨t219, A60, H⟩ := H
          replace H : (searchlightref23_Print.l1 k1 l0 x5_1 x6_1 t219) = some (r1, r2) := H
          have A6 := Aside0.mk A60
          clear A60
          have H' := Aside0.mk H
          clear H
          go_wp2_with (first | ((with_reducible refine gate_callee (f := 22) rfl ?_); refine goesL_ (some 22) rfl rfl Tryz.func22 (by kernel_rfl) rfl #[.slice A0 l0.length c0, .int .i64 x6_1] rfl (by (try simp only [List.map_toArray, List.map_cons, List.map_nil]); first | done | rfl | (simp only [List.length_drop, List.length_take]; rfl)) ?_; (with_reducible refine (searchlightref23_depth.calls k1 _ _ l0 x6_1 t219 _ ?side1 ?side2 A6.out).mono ?_); (case side1 => repeat (first | exact (Kd.C_below HR0.out HB.out) | (with_reducible refine Kd.C_alloc ?_ _) | (with_reducible refine Kd.C_drewN ?_ _) | (with_reducible refine Kd.C_drew ?_))); (case side2 => exact HC0.out); rintro e w' ⟨rfl, ⟨nd, rfl⟩⟩; refine ⟨_, rfl, ?_⟩))
          go_loopg [5, 7] k1 (fun kq v5 v7 w' => ∃ (x5_2 : ByteArray) (x7_2 : Int), v5 = .string x5_2 ∧ v7 = .int .i64 x7_2 ∧ Aside0 (searchlightref23_Print.l1 kq l0 x5_2 x6_1 x7_2 = some (r1, r2)) ∧ Aside0 (kq ≤ k1) ∧ Aside0 (Below w.heap.size w w'))
          case atStart => exact ⟨(x5_1), (t219), (by first | rfl | (simp; done) | (simp [*]; done)), (by first | rfl | (simp; done) | (simp [*]; done)), H', ⟨Nat.le_refl _⟩, ⟨by repeat (first | (with_reducible first | exact HB.out | apply below_alloc | apply pw_below_drewN | apply below_drew1) | exact HB.out)⟩⟩
          case round =>
            clear H'
            try clear c1
            try clear c2
            try clear p2
            try clear c3
            try clear c3b0
            try clear c3b1
            try clear c5
            try clear c5b0
            try clear p2
            obtain ⟨x5_2, x7_2, rfl, rfl, HA, HK2, HB⟩ := hrel
            cases gk with
            | zero => exact absurd HA.out (by simp [searchlightref23_Print.l1])
            | succ k2 =>
              have H := HA.out
              clear HA
              simp only [searchlightref23_Print.l1] at H
              by_cases c7 : x7_2 > 0
              · rw [if_pos c7] at H
                have c7b0 : decide (0 < x7_2) = true := decide_eq_true c7
                clear c7
                by_cases c8 : x5_2.size + 2 ≤ 9223372036854775807
                · rw [if_pos c8] at H
                  have c8b0 := eq_true c8
                  have c8b1 : decide (x5_2.size + 2 ≤ 9223372036854775807) = true := decide_eq_true c8
                  try have c8b2 : (9223372036854775807 < x5_2.size + 2) = False := eq_false (Nat.not_lt.2 c8)
                  have H' := Aside0.mk H
                  clear H
                  go_wp2
                  go_roundg k2
                  case measure => have := HK1.out; have := HK2.out; omega
                  case rel => exact ⟨(x5_2 ++ (⟨#[32, 32]⟩ : ByteArray)), (wrap64 (x7_2 - 1)), (by first | rfl | (simp; done) | (simp [*]; done)), (by first | rfl | (simp; done) | (simp [*]; done)), H', ⟨by have := HK1.out; have := HK2.out; omega⟩, ⟨by repeat (first | (with_reducible first | exact HB.out | apply below_alloc | apply pw_below_drewN | apply below_drew1) | exact HB.out)⟩⟩
                · rw [if_neg c8] at H
                  exact absurd H (by simp)
              · rw [if_neg c7] at H
                have c7b0 : decide (0 < x7_2) = false := decide_eq_false c7
                clear c7
                by_cases c9 : 0 ≤ x6_1
                · rw [if_pos c9] at H
                  have c9b0 : decide (0 ≤ x6_1) = true := decide_eq_true c9
                  clear c9
                  by_cases c10 : x6_1 < (l0.length : Int)
                  · rw [if_pos c10] at H
                    have c10b0 : decide (x6_1 < (l0.length : Int)) = true := decide_eq_true c10
                    clear c10
                    by_cases c11 : x5_2.size + ((rd_T40 l0 x6_1).f0).size ≤ 9223372036854775807
                    · rw [if_pos c11] at H
                      have c11b0 := eq_true c11
                      have c11b1 : decide (x5_2.size + ((rd_T40 l0 x6_1).f0).size ≤ 9223372036854775807) = true := decide_eq_true c11
                      try have c11b2 : (9223372036854775807 < x5_2.size + ((rd_T40 l0 x6_1).f0).size) = False := eq_false (Nat.not_lt.2 c11)
                      have H' := Aside0.mk H
                      clear H
                      have p220 : 0 ≤ (x6_1 : Int) := of_decide_eq_true (by first | (with_reducible assumption) | assumption)
                      have q220 : x6_1 < (l0.length : Int) := of_decide_eq_true (by first | (with_reducible assumption) | assumption)
                      obtain ⟨ad220, A220_1, c220_1, A220_5, c220_5, e220, hx220_0, hx220_1, hx220_2, hx220_3, hx220_4, hx220_5, hx220_6, hl220_1, hi220_1, hl220_5, hi220_5⟩ := at_T40 HR0.out x6_1 p220 q220
                      cases e220
                      replace hx220_0 := (HB.out.cell (World.block_lt_of_cell? w _ hx220_0)).trans hx220_0
                      replace hx220_1 := (HB.out.cell (World.block_lt_of_cell? w _ hx220_1)).trans hx220_1
                      replace hx220_2 := (HB.out.cell (World.block_lt_of_cell? w _ hx220_2)).trans hx220_2
                      replace hx220_3 := (HB.out.cell (World.block_lt_of_cell? w _ hx220_3)).trans hx220_3
                      replace hx220_4 := (HB.out.cell (World.block_lt_of_cell? w _ hx220_4)).trans hx220_4
                      replace hx220_5 := (HB.out.cell (World.block_lt_of_cell? w _ hx220_5)).trans hx220_5
                      replace hx220_6 := (HB.out.cell (World.block_lt_of_cell? w _ hx220_6)).trans hx220_6
                      have HR220_1 := Aside0.mk hi220_1
                      have HC220_1 := Aside0.mk hl220_1
                      clear hi220_1 hl220_1
                      have HR220_5 := Aside0.mk hi220_5
                      have HC220_5 := Aside0.mk hl220_5
                      clear hi220_5 hl220_5
                      replace p220 := eq_true p220
                      replace q220 := eq_true q220
                      go_wp2
                      go_loopg [5, 8] k2 (fun kq v5 v8 w' => ∃ (x5_3 : ByteArray) (x8_3 : Int), v5 = .string x5_3 ∧ v8 = .int .i64 x8_3 ∧ Aside0 (searchlightref23_Print.l2 kq l0 x5_3 x6_1 x8_3 = some (r1, r2)) ∧ Aside0 (kq ≤ k2) ∧ Aside0 (Below w.heap.size w w'))
                      case atStart => exact ⟨(x5_2 ++ ((rd_T40 l0 x6_1).f0)), (0), (by first | rfl | (simp; done) | (simp [*]; done)), (by first | rfl | (simp; done) | (simp [*]; done)), H', ⟨Nat.le_refl _⟩, ⟨by repeat (first | (with_reducible first | exact HB.out | apply below_alloc | apply pw_below_drewN | apply below_drew1) | exact HB.out)⟩⟩
                      case round =>
                        clear H'
                        try clear c1
                        try clear c2
                        try clear p2
                        try clear q2
                        try clear hx2
                        try clear c3
                        try clear c3b0
                        try clear c3b1
                        try clear c5
                        try clear c5b0
                        try clear p6
                        try clear c7
                        try clear c7b0
                        try clear c8
                        try clear c8b0
                        try clear c8b1
                        try clear c8b2
                        try clear c9
                        try clear c9b0
                        try clear c10
                        try clear c10b0
                        try clear c11
                        try clear c11b0
                        try clear c11b1
                        try clear c11b2
                        try clear hx220_0
                        try clear hx220_1
                        try clear hx220_2
                        try clear hx220_3
                        try clear hx220_4
                        try clear hx220_5
                        try clear hx220_6
                        try clear p2
                        try clear p220
                        try clear q220
                        obtain ⟨x5_3, x8_3, rfl, rfl, HA, HK3, HB⟩ := hrel
                        cases gk with
                        | zero => exact absurd HA.out (by simp [searchlightref23_Print.l2])
                        | succ k3 =>
                          have H := HA.out
                          clear HA
                          simp only [searchlightref23_Print.l2] at H
                          by_cases c12 : 0 ≤ x6_1
                          · rw [if_pos c12] at H
                            have c12b0 : decide (0 ≤ x6_1) = true := decide_eq_true c12
                            clear c12
                            by_cases c13 : x6_1 < (l0.length : Int)
                            · rw [if_pos c13] at H
                              have c13b0 : decide (x6_1 < (l0.length : Int)) = true := decide_eq_true c13
                              clear c13
                              by_cases c14 : x8_3 < (((rd_T40 l0 x6_1).f1).length : Int)
                              · rw [if_pos c14] at H
                                have c14b0 : decide (x8_3 < (((rd_T40 l0 x6_1).f1).length : Int)) = true := decide_eq_true c14
                                clear c14
                                by_cases c15 : 0 ≤ x8_3
                                · rw [if_pos c15] at H
                                  have c15b0 : decide (0 ≤ x8_3) = true := decide_eq_true c15
                                  clear c15
                                  replace H := Option.bind_eq_some_iff.mp H
                                  obtain ⟨t224, A160, H⟩ := H
                                  replace H : (if 1 + t224.size ≤ 9223372036854775807 then (if x5_3.size + ((⟨#[32]⟩ : ByteArray) ++ t224).size ≤ 9223372036854775807 then (searchlightref23_Print.l2 k3 l0 (x5_3 ++ ((⟨#[32]⟩ : ByteArray) ++ t224)) x6_1 (wrap64 (x8_3 + 1))) else (none)) else (none)) = some (r1, r2) := H
                                  have A16 := Aside0.mk A160
                                  clear A160
                                  by_cases c17 : 1 + t224.size ≤ 9223372036854775807
                                  · rw [if_pos c17] at H
                                    have c17b0 := eq_true c17
                                    have c17b1 : decide (1 + t224.size ≤ 9223372036854775807) = true := decide_eq_true c17
                                    try have c17b2 : (9223372036854775807 < 1 + t224.size) = False := eq_false (Nat.not_lt.2 c17)
                                    by_cases c18 : x5_3.size + ((⟨#[32]⟩ : ByteArray) ++ t224).size ≤ 9223372036854775807
                                    · rw [if_pos c18] at H
                                      have c18b0 := eq_true c18
                                      have c18b1 : decide (x5_3.size + ((⟨#[32]⟩ : ByteArray) ++ t224).size ≤ 9223372036854775807) = true := decide_eq_true c18
                                      try have c18b2 : (9223372036854775807 < x5_3.size + ((⟨#[32]⟩ : ByteArray) ++ t224).size) = False := eq_false (Nat.not_lt.2 c18)
                                      have c18b3 : (9223372036854775807 < x5_3.size + (1 + t224.size)) = False := eq_false (Nat.not_lt.2 (show x5_3.size + (1 + t224.size) ≤ 9223372036854775807 from by have h9 := c18; simp only [size_append'] at h9; exact h9))
                                      have H' := Aside0.mk H
                                      clear H
                                      have p221 : 0 ≤ (x6_1 : Int) := of_decide_eq_true (by first | (with_reducible assumption) | assumption)
                                      have q221 : x6_1 < (l0.length : Int) := of_decide_eq_true (by first | (with_reducible assumption) | assumption)
                                      obtain ⟨ad221, A221_1, c221_1, A221_5, c221_5, e221, hx221_0, hx221_1, hx221_2, hx221_3, hx221_4, hx221_5, hx221_6, hl221_1, hi221_1, hl221_5, hi221_5⟩ := at_T40 HR0.out x6_1 p221 q221
                                      obtain rfl : ad220 = ad221 := (by injection e221)
                                      replace hx221_0 := (HB.out.cell (World.block_lt_of_cell? w _ hx221_0)).trans hx221_0
                                      replace hx221_1 := (HB.out.cell (World.block_lt_of_cell? w _ hx221_1)).trans hx221_1
                                      replace hx221_2 := (HB.out.cell (World.block_lt_of_cell? w _ hx221_2)).trans hx221_2
                                      replace hx221_3 := (HB.out.cell (World.block_lt_of_cell? w _ hx221_3)).trans hx221_3
                                      replace hx221_4 := (HB.out.cell (World.block_lt_of_cell? w _ hx221_4)).trans hx221_4
                                      replace hx221_5 := (HB.out.cell (World.block_lt_of_cell? w _ hx221_5)).trans hx221_5
                                      replace hx221_6 := (HB.out.cell (World.block_lt_of_cell? w _ hx221_6)).trans hx221_6
                                      have HR221_1 := Aside0.mk hi221_1
                                      have HC221_1 := Aside0.mk hl221_1
                                      clear hi221_1 hl221_1
                                      have HR221_5 := Aside0.mk hi221_5
                                      have HC221_5 := Aside0.mk hl221_5
                                      clear hi221_5 hl221_5
                                      replace p221 := eq_true p221
                                      replace q221 := eq_true q221
                                      have p222 : 0 ≤ (x6_1 : Int) := of_decide_eq_true (by first | (with_reducible assumption) | assumption)
                                      have q222 : x6_1 < (l0.length : Int) := of_decide_eq_true (by first | (with_reducible assumption) | assumption)
                                      obtain ⟨ad222, A222_1, c222_1, A222_5, c222_5, e222, hx222_0, hx222_1, hx222_2, hx222_3, hx222_4, hx222_5, hx222_6, hl222_1, hi222_1, hl222_5, hi222_5⟩ := at_T40 HR0.out x6_1 p222 q222
                                      obtain rfl : ad220 = ad222 := (by injection e222)
                                      replace hx222_0 := (HB.out.cell (World.block_lt_of_cell? w _ hx222_0)).trans hx222_0
                                      replace hx222_1 := (HB.out.cell (World.block_lt_of_cell? w _ hx222_1)).trans hx222_1
                                      replace hx222_2 := (HB.out.cell (World.block_lt_of_cell? w _ hx222_2)).trans hx222_2
                                      replace hx222_3 := (HB.out.cell (World.block_lt_of_cell? w _ hx222_3)).trans hx222_3
                                      replace hx222_4 := (HB.out.cell (World.block_lt_of_cell? w _ hx222_4)).trans hx222_4
                                      replace hx222_5 := (HB.out.cell (World.block_lt_of_cell? w _ hx222_5)).trans hx222_5
                                      replace hx222_6 := (HB.out.cell (World.block_lt_of_cell? w _ hx222_6)).trans hx222_6
                                      have HR222_1 := Aside0.mk hi222_1
                                      have HC222_1 := Aside0.mk hl222_1
                                      clear hi222_1 hl222_1
                                      have HR222_5 := Aside0.mk hi222_5
                                      have HC222_5 := Aside0.mk hl222_5
                                      clear hi222_5 hl222_5
                                      replace p222 := eq_true p222
                                      replace q222 := eq_true q222
                                      have ea_ := Option.some.inj (hx221_1.symm.trans hx222_1)
                                      injection ea_ with ea_ en_ ec_
                                      subst ea_
                                      subst ec_
                                      clear en_
                                      have ea_ := Option.some.inj (hx221_5.symm.trans hx222_5)
                                      injection ea_ with ea_ en_ ec_
                                      subst ea_
                                      subst ec_
                                      clear en_
                                      have p223 : 0 ≤ (x8_3 : Int) := of_decide_eq_true (by first | (with_reducible assumption) | assumption)
                                      have q223 : x8_3 < (((rd_T40 l0 x6_1).f1).length : Int) := of_decide_eq_true (by first | (with_reducible assumption) | assumption)
                                      obtain ⟨ad223, A223_3, c223_3, e223, hx223_0, hx223_1, hx223_2, hx223_3, hl223_3, hi223_3⟩ := at_T38 HR222_1.out x8_3 p223 q223
                                      cases e223
                                      replace hx223_0 := (HB.out.cell (World.block_lt_of_cell? w _ hx223_0)).trans hx223_0
                                      replace hx223_1 := (HB.out.cell (World.block_lt_of_cell? w _ hx223_1)).trans hx223_1
                                      replace hx223_2 := (HB.out.cell (World.block_lt_of_cell? w _ hx223_2)).trans hx223_2
                                      replace hx223_3 := (HB.out.cell (World.block_lt_of_cell? w _ hx223_3)).trans hx223_3
                                      have HR223_3 := Aside0.mk hi223_3
                                      have HC223_3 := Aside0.mk hl223_3
                                      clear hi223_3 hl223_3
                                      replace p223 := eq_true p223
                                      replace q223 := eq_true q223
                                      go_wp2_with (first | ((with_reducible refine gate_callee (f := 23) rfl ?_); refine goesL_ (some 55) rfl rfl Tryz.func23 (by kernel_rfl) rfl #[.agg #[.int .i64 ((rd_T38 ((rd_T40 l0 x6_1).f1) x8_3).f0), .string ((rd_T38 ((rd_T40 l0 x6_1).f1) x8_3).f1), .int .i64 ((rd_T38 ((rd_T40 l0 x6_1).f1) x8_3).f2), .slice A223_3 ((rd_T38 ((rd_T40 l0 x6_1).f1) x8_3).f3).length c223_3]] rfl (by (try simp only [List.map_toArray, List.map_cons, List.map_nil]); first | done | rfl | (simp only [List.length_drop, List.length_take]; rfl)) ?_; (with_reducible refine (searchlightref23_inner.calls ((rd_T38 ((rd_T40 l0 x6_1).f1) x8_3).f0) ((rd_T38 ((rd_T40 l0 x6_1).f1) x8_3).f1) ((rd_T38 ((rd_T40 l0 x6_1).f1) x8_3).f2) _ _ ((rd_T38 ((rd_T40 l0 x6_1).f1) x8_3).f3) t224 _ ?side1 ?side2 A16.out (Tab.below HT.out (by repeat (first | (with_reducible first | exact HB.out | apply below_alloc | apply pw_below_drewN | apply below_drew1) | exact HB.out)))).mono ?_); (case side1 => repeat (first | exact (Kd.C_below HR223_3.out HB.out) | (with_reducible refine Kd.C_alloc ?_ _) | (with_reducible refine Kd.C_drewN ?_ _) | (with_reducible refine Kd.C_drew ?_))); (case side2 => exact HC223_3.out); rintro e w19 ⟨rfl, hb⟩; refine ⟨_, rfl, ?_⟩; have n0_ := Aside0.mk (below_step (by repeat (first | (with_reducible first | exact HB.out | apply below_alloc | apply pw_below_drewN | apply below_drew1) | exact HB.out)) hb); clear HB; have HB := n0_; clear n0_; (try clear hb); (try clear hb2); (try clear hk); (try clear hi)))
                                      go_roundg k3
                                      case measure => have := HK1.out; have := HK2.out; have := HK3.out; omega
                                      case rel => exact ⟨(x5_3 ++ ((⟨#[32]⟩ : ByteArray) ++ t224)), (wrap64 (x8_3 + 1)), (by first | rfl | (simp; done) | (simp [*]; done)), (by first | rfl | (simp; done) | (simp [*]; done)), H', ⟨by have := HK1.out; have := HK2.out; have := HK3.out; omega⟩, ⟨by repeat (first | (with_reducible first | exact HB.out | apply below_alloc | apply pw_below_drewN | apply below_drew1) | exact HB.out)⟩⟩
                                    · rw [if_neg c18] at H
                                      exact absurd H (by simp)
                                  · rw [if_neg c17] at H
                                    exact absurd H (by simp)
                                · rw [if_neg c15] at H
                                  exact absurd H (by simp)
                              · rw [if_neg c14] at H
                                have c14b0 : decide (x8_3 < (((rd_T40 l0 x6_1).f1).length : Int)) = false := decide_eq_false c14
                                clear c14
                                replace H := Option.bind_eq_some_iff.mp H
                                obtain ⟨t226, A200, H⟩ := H
                                replace H : (if 3 + t226.size ≤ 9223372036854775807 then (if ((⟨#[32, 61, 32]⟩ : ByteArray) ++ t226).size + 1 ≤ 9223372036854775807 then (if x5_3.size + (((⟨#[32, 61, 32]⟩ : ByteArray) ++ t226) ++ (⟨#[10]⟩ : ByteArray)).size ≤ 9223372036854775807 then (if ((x5_3 ++ (((⟨#[32, 61, 32]⟩ : ByteArray) ++ t226) ++ (⟨#[10]⟩ : ByteArray))).size : Int) > 20000 then (some ((⟨#[]⟩ : ByteArray), 3)) else (searchlightref23_Print.l0 k3 l0 (x5_3 ++ (((⟨#[32, 61, 32]⟩ : ByteArray) ++ t226) ++ (⟨#[10]⟩ : ByteArray))) (wrap64 (x6_1 + 1)))) else (none)) else (none)) else (none)) = some (r1, r2) := H
                                have A20 := Aside0.mk A200
                                clear A200
                                by_cases c21 : 3 + t226.size ≤ 9223372036854775807
                                · rw [if_pos c21] at H
                                  have c21b0 := eq_true c21
                                  have c21b1 : decide (3 + t226.size ≤ 9223372036854775807) = true := decide_eq_true c21
                                  try have c21b2 : (9223372036854775807 < 3 + t226.size) = False := eq_false (Nat.not_lt.2 c21)
                                  by_cases c22 : ((⟨#[32, 61, 32]⟩ : ByteArray) ++ t226).size + 1 ≤ 9223372036854775807
                                  · rw [if_pos c22] at H
                                    have c22b0 := eq_true c22
                                    have c22b1 : decide (((⟨#[32, 61, 32]⟩ : ByteArray) ++ t226).size + 1 ≤ 9223372036854775807) = true := decide_eq_true c22
                                    try have c22b2 : (9223372036854775807 < ((⟨#[32, 61, 32]⟩ : ByteArray) ++ t226).size + 1) = False := eq_false (Nat.not_lt.2 c22)
                                    have c22b3 : (9223372036854775807 < 3 + t226.size + 1) = False := eq_false (Nat.not_lt.2 (show 3 + t226.size + 1 ≤ 9223372036854775807 from by have h9 := c22; simp only [size_append'] at h9; exact h9))
                                    by_cases c23 : x5_3.size + (((⟨#[32, 61, 32]⟩ : ByteArray) ++ t226) ++ (⟨#[10]⟩ : ByteArray)).size ≤ 9223372036854775807
                                    · rw [if_pos c23] at H
                                      have c23b0 := eq_true c23
                                      have c23b1 : decide (x5_3.size + (((⟨#[32, 61, 32]⟩ : ByteArray) ++ t226) ++ (⟨#[10]⟩ : ByteArray)).size ≤ 9223372036854775807) = true := decide_eq_true c23
                                      try have c23b2 : (9223372036854775807 < x5_3.size + (((⟨#[32, 61, 32]⟩ : ByteArray) ++ t226) ++ (⟨#[10]⟩ : ByteArray)).size) = False := eq_false (Nat.not_lt.2 c23)
                                      have c23b3 : (9223372036854775807 < x5_3.size + (3 + t226.size + 1)) = False := eq_false (Nat.not_lt.2 (show x5_3.size + (3 + t226.size + 1) ≤ 9223372036854775807 from by have h9 := c23; simp only [size_append'] at h9; exact h9))
                                      by_cases c24 : ((x5_3 ++ (((⟨#[32, 61, 32]⟩ : ByteArray) ++ t226) ++ (⟨#[10]⟩ : ByteArray))).size : Int) > 20000
                                      · rw [if_pos c24] at H
                                        have c24b0 : decide (20000 < ((x5_3 ++ (((⟨#[32, 61, 32]⟩ : ByteArray) ++ t226) ++ (⟨#[10]⟩ : ByteArray))).size : Int)) = true := decide_eq_true c24
                                        have c24b1 : decide (20000 < (x5_3 ++ (((⟨#[32, 61, 32]⟩ : ByteArray) ++ t226) ++ (⟨#[10]⟩ : ByteArray))).size) = true := decide_eq_true (by omega)
                                        have c24b3 : decide (20000 < x5_3.size + (3 + t226.size + 1)) = true := by have h9 := c24b1; simp only [size_append'] at h9; exact h9
                                        have c24b4 : decide ((20000 : Int) < (x5_3.size : Int) + (3 + (t226.size : Int) + 1)) = true := by have h9 := c24b3; rw [← h9]; exact decide_eq_decide.2 (by omega)
                                        clear c24
                                        simp only [Option.some.injEq, Prod.mk.injEq] at H
                                        obtain ⟨rfl, rfl⟩ := H
                                        have p221 : 0 ≤ (x6_1 : Int) := of_decide_eq_true (by first | (with_reducible assumption) | assumption)
                                        have q221 : x6_1 < (l0.length : Int) := of_decide_eq_true (by first | (with_reducible assumption) | assumption)
                                        obtain ⟨ad221, A221_1, c221_1, A221_5, c221_5, e221, hx221_0, hx221_1, hx221_2, hx221_3, hx221_4, hx221_5, hx221_6, hl221_1, hi221_1, hl221_5, hi221_5⟩ := at_T40 HR0.out x6_1 p221 q221
                                        obtain rfl : ad220 = ad221 := (by injection e221)
                                        replace hx221_0 := (HB.out.cell (World.block_lt_of_cell? w _ hx221_0)).trans hx221_0
                                        replace hx221_1 := (HB.out.cell (World.block_lt_of_cell? w _ hx221_1)).trans hx221_1
                                        replace hx221_2 := (HB.out.cell (World.block_lt_of_cell? w _ hx221_2)).trans hx221_2
                                        replace hx221_3 := (HB.out.cell (World.block_lt_of_cell? w _ hx221_3)).trans hx221_3
                                        replace hx221_4 := (HB.out.cell (World.block_lt_of_cell? w _ hx221_4)).trans hx221_4
                                        replace hx221_5 := (HB.out.cell (World.block_lt_of_cell? w _ hx221_5)).trans hx221_5
                                        replace hx221_6 := (HB.out.cell (World.block_lt_of_cell? w _ hx221_6)).trans hx221_6
                                        have HR221_1 := Aside0.mk hi221_1
                                        have HC221_1 := Aside0.mk hl221_1
                                        clear hi221_1 hl221_1
                                        have HR221_5 := Aside0.mk hi221_5
                                        have HC221_5 := Aside0.mk hl221_5
                                        clear hi221_5 hl221_5
                                        replace p221 := eq_true p221
                                        replace q221 := eq_true q221
                                        have p225 : 0 ≤ (x6_1 : Int) := of_decide_eq_true (by first | (with_reducible assumption) | assumption)
                                        have q225 : x6_1 < (l0.length : Int) := of_decide_eq_true (by first | (with_reducible assumption) | assumption)
                                        obtain ⟨ad225, A225_1, c225_1, A225_5, c225_5, e225, hx225_0, hx225_1, hx225_2, hx225_3, hx225_4, hx225_5, hx225_6, hl225_1, hi225_1, hl225_5, hi225_5⟩ := at_T40 HR0.out x6_1 p225 q225
                                        obtain rfl : ad220 = ad225 := (by injection e225)
                                        replace hx225_0 := (HB.out.cell (World.block_lt_of_cell? w _ hx225_0)).trans hx225_0
                                        replace hx225_1 := (HB.out.cell (World.block_lt_of_cell? w _ hx225_1)).trans hx225_1
                                        replace hx225_2 := (HB.out.cell (World.block_lt_of_cell? w _ hx225_2)).trans hx225_2
                                        replace hx225_3 := (HB.out.cell (World.block_lt_of_cell? w _ hx225_3)).trans hx225_3
                                        replace hx225_4 := (HB.out.cell (World.block_lt_of_cell? w _ hx225_4)).trans hx225_4
                                        replace hx225_5 := (HB.out.cell (World.block_lt_of_cell? w _ hx225_5)).trans hx225_5
                                        replace hx225_6 := (HB.out.cell (World.block_lt_of_cell? w _ hx225_6)).trans hx225_6
                                        have HR225_1 := Aside0.mk hi225_1
                                        have HC225_1 := Aside0.mk hl225_1
                                        clear hi225_1 hl225_1
                                        have HR225_5 := Aside0.mk hi225_5
                                        have HC225_5 := Aside0.mk hl225_5
                                        clear hi225_5 hl225_5
                                        replace p225 := eq_true p225
                                        replace q225 := eq_true q225
                                        have ea_ := Option.some.inj (hx221_1.symm.trans hx225_1)
                                        injection ea_ with ea_ en_ ec_
                                        subst ea_
                                        subst ec_
                                        clear en_
                                        have ea_ := Option.some.inj (hx221_5.symm.trans hx225_5)
                                        injection ea_ with ea_ en_ ec_
                                        subst ea_
                                        subst ec_
                                        clear en_
                                        go_wp2_with (first | ((with_reducible refine gate_callee (f := 24) rfl ?_); refine goesL_ (some 64) rfl rfl Tryz.func24 (by kernel_rfl) rfl #[.agg #[.int .i64 ((rd_T40 l0 x6_1).f2.f0), .string ((rd_T40 l0 x6_1).f2.f1), .int .i64 ((rd_T40 l0 x6_1).f2.f2), .slice A221_5 ((rd_T40 l0 x6_1).f2.f3).length c221_5]] rfl (by (try simp only [List.map_toArray, List.map_cons, List.map_nil]); first | done | rfl | (simp only [List.length_drop, List.length_take]; rfl)) ?_; (with_reducible refine (searchlightref08_Text.calls ((rd_T40 l0 x6_1).f2.f0) ((rd_T40 l0 x6_1).f2.f1) ((rd_T40 l0 x6_1).f2.f2) _ _ ((rd_T40 l0 x6_1).f2.f3) t226 _ ?side1 ?side2 A20.out (Tab.below HT.out (by repeat (first | (with_reducible first | exact HB.out | apply below_alloc | apply pw_below_drewN | apply below_drew1) | exact HB.out)))).mono ?_); (case side1 => repeat (first | exact (Kd.C_below HR225_5.out HB.out) | (with_reducible refine Kd.C_alloc ?_ _) | (with_reducible refine Kd.C_drewN ?_ _) | (with_reducible refine Kd.C_drew ?_))); (case side2 => exact HC225_5.out); rintro e w25 ⟨rfl, hb⟩; refine ⟨_, rfl, ?_⟩; have n0_ := Aside0.mk (below_step (by repeat (first | (with_reducible first | exact HB.out | apply below_alloc | apply pw_below_drewN | apply below_drew1) | exact HB.out)) hb); clear HB; have HB := n0_; clear n0_; (try clear hb); (try clear hb2); (try clear hk); (try clear hi)))
                                        go_ret2
                                        exact ⟨by first | rfl | (simp [errW_none, errW_some] <;> rfl) | (simp [*, errW_none, errW_some] <;> rfl), by repeat (first | (with_reducible first | exact HB.out | apply below_alloc | apply pw_below_drewN | apply below_drew1) | exact HB.out)⟩
                                      · rw [if_neg c24] at H
                                        have c24b0 : decide (20000 < ((x5_3 ++ (((⟨#[32, 61, 32]⟩ : ByteArray) ++ t226) ++ (⟨#[10]⟩ : ByteArray))).size : Int)) = false := decide_eq_false c24
                                        have c24b1 : decide (20000 < (x5_3 ++ (((⟨#[32, 61, 32]⟩ : ByteArray) ++ t226) ++ (⟨#[10]⟩ : ByteArray))).size) = false := decide_eq_false (by omega)
                                        have c24b3 : decide (20000 < x5_3.size + (3 + t226.size + 1)) = false := by have h9 := c24b1; simp only [size_append'] at h9; exact h9
                                        have c24b4 : decide ((20000 : Int) < (x5_3.size : Int) + (3 + (t226.size : Int) + 1)) = false := by have h9 := c24b3; rw [← h9]; exact decide_eq_decide.2 (by omega)
                                        clear c24
                                        have H' := Aside0.mk H
                                        clear H
                                        have p221 : 0 ≤ (x6_1 : Int) := of_decide_eq_true (by first | (with_reducible assumption) | assumption)
                                        have q221 : x6_1 < (l0.length : Int) := of_decide_eq_true (by first | (with_reducible assumption) | assumption)
                                        obtain ⟨ad221, A221_1, c221_1, A221_5, c221_5, e221, hx221_0, hx221_1, hx221_2, hx221_3, hx221_4, hx221_5, hx221_6, hl221_1, hi221_1, hl221_5, hi221_5⟩ := at_T40 HR0.out x6_1 p221 q221
                                        obtain rfl : ad220 = ad221 := (by injection e221)
                                        replace hx221_0 := (HB.out.cell (World.block_lt_of_cell? w _ hx221_0)).trans hx221_0
                                        replace hx221_1 := (HB.out.cell (World.block_lt_of_cell? w _ hx221_1)).trans hx221_1
                                        replace hx221_2 := (HB.out.cell (World.block_lt_of_cell? w _ hx221_2)).trans hx221_2
                                        replace hx221_3 := (HB.out.cell (World.block_lt_of_cell? w _ hx221_3)).trans hx221_3
                                        replace hx221_4 := (HB.out.cell (World.block_lt_of_cell? w _ hx221_4)).trans hx221_4
                                        replace hx221_5 := (HB.out.cell (World.block_lt_of_cell? w _ hx221_5)).trans hx221_5
                                        replace hx221_6 := (HB.out.cell (World.block_lt_of_cell? w _ hx221_6)).trans hx221_6
                                        have HR221_1 := Aside0.mk hi221_1
                                        have HC221_1 := Aside0.mk hl221_1
                                        clear hi221_1 hl221_1
                                        have HR221_5 := Aside0.mk hi221_5
                                        have HC221_5 := Aside0.mk hl221_5
                                        clear hi221_5 hl221_5
                                        replace p221 := eq_true p221
                                        replace q221 := eq_true q221
                                        have p225 : 0 ≤ (x6_1 : Int) := of_decide_eq_true (by first | (with_reducible assumption) | assumption)
                                        have q225 : x6_1 < (l0.length : Int) := of_decide_eq_true (by first | (with_reducible assumption) | assumption)
                                        obtain ⟨ad225, A225_1, c225_1, A225_5, c225_5, e225, hx225_0, hx225_1, hx225_2, hx225_3, hx225_4, hx225_5, hx225_6, hl225_1, hi225_1, hl225_5, hi225_5⟩ := at_T40 HR0.out x6_1 p225 q225
                                        obtain rfl : ad220 = ad225 := (by injection e225)
                                        replace hx225_0 := (HB.out.cell (World.block_lt_of_cell? w _ hx225_0)).trans hx225_0
                                        replace hx225_1 := (HB.out.cell (World.block_lt_of_cell? w _ hx225_1)).trans hx225_1
                                        replace hx225_2 := (HB.out.cell (World.block_lt_of_cell? w _ hx225_2)).trans hx225_2
                                        replace hx225_3 := (HB.out.cell (World.block_lt_of_cell? w _ hx225_3)).trans hx225_3
                                        replace hx225_4 := (HB.out.cell (World.block_lt_of_cell? w _ hx225_4)).trans hx225_4
                                        replace hx225_5 := (HB.out.cell (World.block_lt_of_cell? w _ hx225_5)).trans hx225_5
                                        replace hx225_6 := (HB.out.cell (World.block_lt_of_cell? w _ hx225_6)).trans hx225_6
                                        have HR225_1 := Aside0.mk hi225_1
                                        have HC225_1 := Aside0.mk hl225_1
                                        clear hi225_1 hl225_1
                                        have HR225_5 := Aside0.mk hi225_5
                                        have HC225_5 := Aside0.mk hl225_5
                                        clear hi225_5 hl225_5
                                        replace p225 := eq_true p225
                                        replace q225 := eq_true q225
                                        have ea_ := Option.some.inj (hx221_1.symm.trans hx225_1)
                                        injection ea_ with ea_ en_ ec_
                                        subst ea_
                                        subst ec_
                                        clear en_
                                        have ea_ := Option.some.inj (hx221_5.symm.trans hx225_5)
                                        injection ea_ with ea_ en_ ec_
                                        subst ea_
                                        subst ec_
                                        clear en_
                                        go_wp2_with (first | ((with_reducible refine gate_callee (f := 24) rfl ?_); refine goesL_ (some 64) rfl rfl Tryz.func24 (by kernel_rfl) rfl #[.agg #[.int .i64 ((rd_T40 l0 x6_1).f2.f0), .string ((rd_T40 l0 x6_1).f2.f1), .int .i64 ((rd_T40 l0 x6_1).f2.f2), .slice A221_5 ((rd_T40 l0 x6_1).f2.f3).length c221_5]] rfl (by (try simp only [List.map_toArray, List.map_cons, List.map_nil]); first | done | rfl | (simp only [List.length_drop, List.length_take]; rfl)) ?_; (with_reducible refine (searchlightref08_Text.calls ((rd_T40 l0 x6_1).f2.f0) ((rd_T40 l0 x6_1).f2.f1) ((rd_T40 l0 x6_1).f2.f2) _ _ ((rd_T40 l0 x6_1).f2.f3) t226 _ ?side1 ?side2 A20.out (Tab.below HT.out (by repeat (first | (with_reducible first | exact HB.out | apply below_alloc | apply pw_below_drewN | apply below_drew1) | exact HB.out)))).mono ?_); (case side1 => repeat (first | exact (Kd.C_below HR225_5.out HB.out) | (with_reducible refine Kd.C_alloc ?_ _) | (with_reducible refine Kd.C_drewN ?_ _) | (with_reducible refine Kd.C_drew ?_))); (case side2 => exact HC225_5.out); rintro e w26 ⟨rfl, hb⟩; refine ⟨_, rfl, ?_⟩; have n0_ := Aside0.mk (below_step (by repeat (first | (with_reducible first | exact HB.out | apply below_alloc | apply pw_below_drewN | apply below_drew1) | exact HB.out)) hb); clear HB; have HB := n0_; clear n0_; (try clear hb); (try clear hb2); (try clear hk); (try clear hi)))
                                        go_roundg k3
                                        case measure => have := HK1.out; have := HK2.out; have := HK3.out; omega
                                        case rel => exact ⟨(x5_3 ++ (((⟨#[32, 61, 32]⟩ : ByteArray) ++ t226) ++ (⟨#[10]⟩ : ByteArray))), (wrap64 (x6_1 + 1)), (by first | rfl | (simp; done) | (simp [*]; done)), (by first | rfl | (simp; done) | (simp [*]; done)), H', ⟨by have := HK1.out; have := HK2.out; have := HK3.out; omega⟩, ⟨by repeat (first | (with_reducible first | exact HB.out | apply below_alloc | apply pw_below_drewN | apply below_drew1) | exact HB.out)⟩⟩
                                    · rw [if_neg c23] at H
                                      exact absurd H (by simp)
                                  · rw [if_neg c22] at H
                                    exact absurd H (by simp)
                                · rw [if_neg c21] at H
                                  exact absurd H (by simp)
                            · rw [if_neg c13] at H
                              exact absurd H (by simp)
                          · rw [if_neg c12] at H
                            exact absurd H (by simp)
                    · rw [if_neg c11] at H
                      exact absurd H (by simp)
                  · rw [if_neg c10] at H
                    exact absurd H (by simp)
                · rw [if_neg c9] at H
                  exact absurd H (by simp)
        · rw [if_neg c5] at H
          have c5b0 : decide (x6_1 < (l0.length : Int)) = false := decide_eq_false c5
          clear c5
          simp only [Option.some.injEq, Prod.mk.injEq] at H
          obtain ⟨rfl, rfl⟩ := H
          go_wp2
          go_ret2
          exact ⟨by first | rfl | (simp [errW_none, errW_some] <;> rfl) | (simp [*, errW_none, errW_some] <;> rfl), by repeat (first | (with_reducible first | exact HB.out | apply below_alloc | apply pw_below_drewN | apply below_drew1) | exact HB.out)⟩
  · rw [if_neg c3] at H
    have c3b0 : (t218 == 0) = false := beq_eq_false_iff_ne.mpr c3
    have c3b1 : (t218 != 0) = true := bne_iff_ne.mpr c3
    simp only [Option.some.injEq, Prod.mk.injEq] at H
    obtain ⟨rfl, rfl⟩ := H
    go_enter Tryz.func11, Tryz.ntmps11
    go_wp2_with (first | ((with_reducible refine gate_callee (f := 16) rfl ?_); refine goesL_ (some 10) rfl rfl Tryz.func16 (by kernel_rfl) rfl #[.slice A0 l0.length c0] rfl (by (try simp only [List.map_toArray, List.map_cons, List.map_nil]); first | done | rfl | (simp only [List.length_drop, List.length_take]; rfl)) ?_; (with_reducible refine (searchlightref23_Right.calls k _ _ l0 t218 _ ?side1 ?side2 A2.out).mono ?_); (case side1 => repeat (first | exact HR0.out | (with_reducible refine Kd.C_alloc ?_ _) | (with_reducible refine Kd.C_drewN ?_ _) | (with_reducible refine Kd.C_drew ?_))); (case side2 => exact HC0.out); rintro e w27 ⟨rfl, hb⟩; refine ⟨_, rfl, ?_⟩; have n0_ := Aside0.mk (below_step (by repeat (first | (with_reducible first | exact HB.out | apply below_alloc | apply pw_below_drewN | apply below_drew1) | exact HB.out)) hb); clear HB; have HB := n0_; clear n0_; (try clear hb); (try clear hb2); (try clear hk); (try clear hi)))
    go_ret2
    exact ⟨by first | rfl | (simp [errW_none, errW_some] <;> rfl) | (simp [*, errW_none, errW_some] <;> rfl), by repeat (first | (with_reducible first | exact HB.out | apply below_alloc | apply pw_below_drewN | apply below_drew1) | exact HB.out)⟩
def searchlightref01_SameInts.l0 : Nat → List Int → List Int → Int → Option (Bool)
  | 0, _, _, _ => none
  | k + 1, x0, x1, x5 => if x5 < (x0.length : Int) then (if 0 ≤ x5 then (if x5 < (x1.length : Int) then (if (rd x0 x5) = (rd x1 x5) then (searchlightref01_SameInts.l0 k x0 x1 (wrap64 (x5 + 1))) else (some false)) else (none)) else (none)) else (some true)
def searchlightref01_SameInts.f (k : Nat) (l0 : List Int) (l1 : List Int) : Option (Bool) := if (l0.length : Int) = (l1.length : Int) then (searchlightref01_SameInts.l0 k l0 l1 0) else (some false)
set_option maxHeartbeats 8000000 in
set_option maxRecDepth 100000 in
theorem searchlightref01_SameInts.calls (k : Nat) (A0 : Option Addr) (c0 : Nat) (l0 : List Int) (A1 : Option Addr) (c1 : Nat) (l1 : List Int) (r : Bool) (w : World) (hr0 : Kd.C (Kd.int .i64) w A0 l0.length l0) (hc0 : l0.length ≤ c0) (hr1 : Kd.C (Kd.int .i64) w A1 l1.length l1) (hc1 : l1.length ≤ c1) (h : searchlightref01_SameInts.f k l0 l1 = some r) :
    Calls Tryz.prog 12 #[.slice A0 l0.length c0, .slice A1 l1.length c1] w fun e w' => e = .returned (.bool r) ∧ Drawn0 w w' := by
  have HR0 := Aside0.mk hr0
  have HC0 := Aside0.mk hc0
  clear hr0 hc0
  have HR1 := Aside0.mk hr1
  have HC1 := Aside0.mk hc1
  clear hr1 hc1
  have H : (if (l0.length : Int) = (l1.length : Int) then (searchlightref01_SameInts.l0 k l0 l1 0) else (some false)) = some r := h
  clear h
  by_cases c3 : (l0.length : Int) = (l1.length : Int)
  · rw [if_pos c3] at H
    have c3b0 : ((l0.length : Int) == (l1.length : Int)) = true := beq_iff_eq.mpr c3
    have c3b1 : ((l0.length : Int) != (l1.length : Int)) = false := bne_eq_false_iff_eq.mpr c3
    have c3b2 : (l0.length == l1.length) = true := by first | simpa using c3 | (simp at c3 ⊢; omega)
    clear c3
    have H' := Aside0.mk H
    clear H
    go_enter Tryz.func12, Tryz.ntmps12
    go_wp2
    repeat (go_quiet (fail); try go_wp2)
    go_loopg [5] k (fun kq v5 w' => ∃ (x5_1 : Int), v5 = .int .i64 x5_1 ∧ Aside0 (searchlightref01_SameInts.l0 kq l0 l1 x5_1 = some r) ∧ Aside0 (kq ≤ k) ∧ Drawn0 w w')
    case atStart => exact ⟨(0), (by first | rfl | (simp; done) | (simp [*]; done)), H', ⟨Nat.le_refl _⟩, by repeat (first | exact Drawn0.refl _ | apply Drawn0.step)⟩
    case round =>
      clear H'
      try clear c1
      try clear p2
      try clear c3
      try clear c3b0
      try clear c3b1
      try clear c3b2
      obtain ⟨x5_1, rfl, HA, HK1, ⟨m1, rfl⟩⟩ := hrel
      cases gk with
      | zero => exact absurd HA.out (by simp [searchlightref01_SameInts.l0])
      | succ k1 =>
        have H := HA.out
        clear HA
        simp only [searchlightref01_SameInts.l0] at H
        by_cases c4 : x5_1 < (l0.length : Int)
        · rw [if_pos c4] at H
          have c4b0 : decide (x5_1 < (l0.length : Int)) = true := decide_eq_true c4
          clear c4
          by_cases c5 : 0 ≤ x5_1
          · rw [if_pos c5] at H
            have c5b0 : decide (0 ≤ x5_1) = true := decide_eq_true c5
            clear c5
            by_cases c6 : x5_1 < (l1.length : Int)
            · rw [if_pos c6] at H
              have c6b0 : decide (x5_1 < (l1.length : Int)) = true := decide_eq_true c6
              clear c6
              by_cases c7 : (rd l0 x5_1) = (rd l1 x5_1)
              · rw [if_pos c7] at H
                have c7b0 : ((rd l0 x5_1) == (rd l1 x5_1)) = true := beq_iff_eq.mpr c7
                have c7b1 : ((rd l0 x5_1) != (rd l1 x5_1)) = false := bne_eq_false_iff_eq.mpr c7
                clear c7
                have H' := Aside0.mk H
                clear H
                have p227 : 0 ≤ (x5_1 : Int) := of_decide_eq_true (by first | (with_reducible assumption) | assumption)
                have q227 : x5_1 < (l0.length : Int) := of_decide_eq_true (by first | (with_reducible assumption) | assumption)
                obtain ⟨ad227, e227, hx227_0⟩ := Kd.at_int HR0.out x5_1 p227 q227
                cases e227
                replace p227 := eq_true p227
                replace q227 := eq_true q227
                have p228 : 0 ≤ (x5_1 : Int) := of_decide_eq_true (by first | (with_reducible assumption) | assumption)
                have q228 : x5_1 < (l1.length : Int) := of_decide_eq_true (by first | (with_reducible assumption) | assumption)
                obtain ⟨ad228, e228, hx228_0⟩ := Kd.at_int HR1.out x5_1 p228 q228
                cases e228
                replace p228 := eq_true p228
                replace q228 := eq_true q228
                go_wp2
                repeat (go_quiet (fail); try go_wp2)
                go_roundg k1
                case measure => have := HK1.out; omega
                case rel => exact ⟨(wrap64 (x5_1 + 1)), (by first | rfl | (simp; done) | (simp [*]; done)), H', ⟨by have := HK1.out; omega⟩, by repeat (first | exact Drawn0.refl _ | apply Drawn0.step)⟩
              · rw [if_neg c7] at H
                have c7b0 : ((rd l0 x5_1) == (rd l1 x5_1)) = false := beq_eq_false_iff_ne.mpr c7
                have c7b1 : ((rd l0 x5_1) != (rd l1 x5_1)) = true := bne_iff_ne.mpr c7
                obtain rfl := Option.some.inj H
                have p227 : 0 ≤ (x5_1 : Int) := of_decide_eq_true (by first | (with_reducible assumption) | assumption)
                have q227 : x5_1 < (l0.length : Int) := of_decide_eq_true (by first | (with_reducible assumption) | assumption)
                obtain ⟨ad227, e227, hx227_0⟩ := Kd.at_int HR0.out x5_1 p227 q227
                cases e227
                replace p227 := eq_true p227
                replace q227 := eq_true q227
                have p228 : 0 ≤ (x5_1 : Int) := of_decide_eq_true (by first | (with_reducible assumption) | assumption)
                have q228 : x5_1 < (l1.length : Int) := of_decide_eq_true (by first | (with_reducible assumption) | assumption)
                obtain ⟨ad228, e228, hx228_0⟩ := Kd.at_int HR1.out x5_1 p228 q228
                cases e228
                replace p228 := eq_true p228
                replace q228 := eq_true q228
                go_wp2
                repeat (go_quiet (fail); try go_wp2)
                go_ret
                exact ⟨by first | rfl | (simp; done) | (simp [*]; done), by repeat (first | exact Drawn0.refl _ | apply Drawn0.step)⟩
            · rw [if_neg c6] at H
              exact absurd H (by simp)
          · rw [if_neg c5] at H
            exact absurd H (by simp)
        · rw [if_neg c4] at H
          have c4b0 : decide (x5_1 < (l0.length : Int)) = false := decide_eq_false c4
          clear c4
          obtain rfl := Option.some.inj H
          go_wp2
          repeat (go_quiet (fail); try go_wp2)
          go_ret
          exact ⟨by first | rfl | (simp; done) | (simp [*]; done), by repeat (first | exact Drawn0.refl _ | apply Drawn0.step)⟩
  · rw [if_neg c3] at H
    have c3b0 : ((l0.length : Int) == (l1.length : Int)) = false := beq_eq_false_iff_ne.mpr c3
    have c3b1 : ((l0.length : Int) != (l1.length : Int)) = true := bne_iff_ne.mpr c3
    have c3b2 : (l0.length == l1.length) = false := by first | simpa using c3 | (simp at c3 ⊢; omega)
    obtain rfl := Option.some.inj H
    go_enter Tryz.func12, Tryz.ntmps12
    go_wp2
    repeat (go_quiet (fail); try go_wp2)
    go_ret
    exact ⟨by first | rfl | (simp; done) | (simp [*]; done), by repeat (first | exact Drawn0.refl _ | apply Drawn0.step)⟩
end Go.Proofs.YtdcdfahhlfeifaaGreatDoor.Q

end
