/-
  THE SEAT'S TYPES: sizes, fields, elements, zero values, as the program's table tells them.
-/
import Derived.Test.YtgdcllbfeghloaaGreatDoorAbs24
import Derived.Test.YtgdcllbfeghloaaGreatDoorProg
set_option linter.all false
namespace Go.Abs
open Go Go.Proofs

@[go_sem] theorem tsz3 : szT Go.Proofs.Tryz.prog 3 = 1 := by kernel_rfl
attribute [go_sem] Go.Proofs.Tryz.underlying3
@[go_sem] theorem tze3 : zeroA Go.Proofs.Tryz.prog 3 = some [.int .i64 0] := by kernel_rfl
@[go_sem] theorem tzo3 : zeroOk Go.Proofs.Tryz.prog 3 = true := by kernel_rfl
@[go_sem] theorem tby3 : bytesT Go.Proofs.Tryz.prog 3 = 8 := by kernel_rfl
@[go_sem] theorem tar3 : arrT Go.Proofs.Tryz.prog 3 = none := by kernel_rfl
@[go_sem] theorem tin3 : intT Go.Proofs.Tryz.prog 3 = some .i64 := by kernel_rfl
@[go_sem] theorem tag3 : aggT Go.Proofs.Tryz.prog 3 = false := by kernel_rfl
@[go_sem] theorem tsz4 : szT Go.Proofs.Tryz.prog 4 = 1 := by kernel_rfl
attribute [go_sem] Go.Proofs.Tryz.underlying4
@[go_sem] theorem tze4 : zeroA Go.Proofs.Tryz.prog 4 = some [.bool false] := by kernel_rfl
@[go_sem] theorem tzo4 : zeroOk Go.Proofs.Tryz.prog 4 = true := by kernel_rfl
@[go_sem] theorem tby4 : bytesT Go.Proofs.Tryz.prog 4 = 1 := by kernel_rfl
@[go_sem] theorem tar4 : arrT Go.Proofs.Tryz.prog 4 = none := by kernel_rfl
@[go_sem] theorem tag4 : aggT Go.Proofs.Tryz.prog 4 = false := by kernel_rfl
@[go_sem] theorem tsz5 : szT Go.Proofs.Tryz.prog 5 = 1 := by kernel_rfl
attribute [go_sem] Go.Proofs.Tryz.underlying5
@[go_sem] theorem tze5 : zeroA Go.Proofs.Tryz.prog 5 = some [.int .u8 0] := by kernel_rfl
@[go_sem] theorem tzo5 : zeroOk Go.Proofs.Tryz.prog 5 = true := by kernel_rfl
@[go_sem] theorem tby5 : bytesT Go.Proofs.Tryz.prog 5 = 1 := by kernel_rfl
@[go_sem] theorem tar5 : arrT Go.Proofs.Tryz.prog 5 = none := by kernel_rfl
@[go_sem] theorem tin5 : intT Go.Proofs.Tryz.prog 5 = some .u8 := by kernel_rfl
@[go_sem] theorem tag5 : aggT Go.Proofs.Tryz.prog 5 = false := by kernel_rfl
@[go_sem] theorem tsz9 : szT Go.Proofs.Tryz.prog 9 = 1 := by kernel_rfl
attribute [go_sem] Go.Proofs.Tryz.underlying9
@[go_sem] theorem tze9 : zeroA Go.Proofs.Tryz.prog 9 = some [.str []] := by kernel_rfl
@[go_sem] theorem tzo9 : zeroOk Go.Proofs.Tryz.prog 9 = true := by kernel_rfl
@[go_sem] theorem tby9 : bytesT Go.Proofs.Tryz.prog 9 = 16 := by kernel_rfl
@[go_sem] theorem tar9 : arrT Go.Proofs.Tryz.prog 9 = none := by kernel_rfl
@[go_sem] theorem tag9 : aggT Go.Proofs.Tryz.prog 9 = false := by kernel_rfl
@[go_sem] theorem tsz22 : szT Go.Proofs.Tryz.prog 22 = 1 := by kernel_rfl
attribute [go_sem] Go.Proofs.Tryz.underlying22
@[go_sem] theorem tze22 : zeroA Go.Proofs.Tryz.prog 22 = some [.int .u32 0] := by kernel_rfl
@[go_sem] theorem tzo22 : zeroOk Go.Proofs.Tryz.prog 22 = true := by kernel_rfl
@[go_sem] theorem tby22 : bytesT Go.Proofs.Tryz.prog 22 = 4 := by kernel_rfl
@[go_sem] theorem tar22 : arrT Go.Proofs.Tryz.prog 22 = none := by kernel_rfl
@[go_sem] theorem tin22 : intT Go.Proofs.Tryz.prog 22 = some .u32 := by kernel_rfl
@[go_sem] theorem tag22 : aggT Go.Proofs.Tryz.prog 22 = false := by kernel_rfl
@[go_sem] theorem tsz24 : szT Go.Proofs.Tryz.prog 24 = 4 := by kernel_rfl
attribute [go_sem] Go.Proofs.Tryz.underlying24
@[go_sem] theorem tze24 : zeroA Go.Proofs.Tryz.prog 24 = some [.int .u32 0, .int .u32 0, .int .u32 0, .int .i64 0] := by kernel_rfl
@[go_sem] theorem tzo24 : zeroOk Go.Proofs.Tryz.prog 24 = true := by kernel_rfl
@[go_sem] theorem tby24 : bytesT Go.Proofs.Tryz.prog 24 = 24 := by kernel_rfl
@[go_sem] theorem tpl24 : placesOk Go.Proofs.Tryz.prog 24 = true := by kernel_rfl
@[go_sem] theorem tfl24 : flatEq Go.Proofs.Tryz.prog 24 = true := by kernel_rfl
@[go_sem] theorem tfi24_0 : fieldT Go.Proofs.Tryz.prog 24 0 = some (0, 1, 22) := by kernel_rfl
@[go_sem] theorem tfi24_1 : fieldT Go.Proofs.Tryz.prog 24 1 = some (1, 1, 22) := by kernel_rfl
@[go_sem] theorem tfi24_2 : fieldT Go.Proofs.Tryz.prog 24 2 = some (2, 1, 22) := by kernel_rfl
@[go_sem] theorem tfi24_3 : fieldT Go.Proofs.Tryz.prog 24 3 = some (3, 1, 3) := by kernel_rfl
@[go_sem] theorem tar24 : arrT Go.Proofs.Tryz.prog 24 = none := by kernel_rfl
@[go_sem] theorem tag24 : aggT Go.Proofs.Tryz.prog 24 = true := by kernel_rfl
@[go_sem] theorem tsz25 : szT Go.Proofs.Tryz.prog 25 = 1 := by kernel_rfl
attribute [go_sem] Go.Proofs.Tryz.underlying25
@[go_sem] theorem tel25 : elemT Go.Proofs.Tryz.prog 25 = some 297 := by kernel_rfl
@[go_sem] theorem tze25 : zeroA Go.Proofs.Tryz.prog 25 = some [.slice .cap0 3 []] := by kernel_rfl
@[go_sem] theorem tzo25 : zeroOk Go.Proofs.Tryz.prog 25 = true := by kernel_rfl
@[go_sem] theorem tby25 : bytesT Go.Proofs.Tryz.prog 25 = 24 := by kernel_rfl
@[go_sem] theorem tar25 : arrT Go.Proofs.Tryz.prog 25 = none := by kernel_rfl
@[go_sem] theorem tag25 : aggT Go.Proofs.Tryz.prog 25 = false := by kernel_rfl
@[go_sem] theorem tsz27 : szT Go.Proofs.Tryz.prog 27 = 5 := by kernel_rfl
attribute [go_sem] Go.Proofs.Tryz.underlying27
@[go_sem] theorem tze27 : zeroA Go.Proofs.Tryz.prog 27 = some [.int .u32 0, .int .u32 0, .int .i64 0, .slice .cap0 3 [], .slice .cap0 3 []] := by kernel_rfl
@[go_sem] theorem tzo27 : zeroOk Go.Proofs.Tryz.prog 27 = true := by kernel_rfl
@[go_sem] theorem tby27 : bytesT Go.Proofs.Tryz.prog 27 = 64 := by kernel_rfl
@[go_sem] theorem tpl27 : placesOk Go.Proofs.Tryz.prog 27 = true := by kernel_rfl
@[go_sem] theorem tfi27_0 : fieldT Go.Proofs.Tryz.prog 27 0 = some (0, 1, 22) := by kernel_rfl
@[go_sem] theorem tfi27_1 : fieldT Go.Proofs.Tryz.prog 27 1 = some (1, 1, 22) := by kernel_rfl
@[go_sem] theorem tfi27_2 : fieldT Go.Proofs.Tryz.prog 27 2 = some (2, 1, 3) := by kernel_rfl
@[go_sem] theorem tfi27_3 : fieldT Go.Proofs.Tryz.prog 27 3 = some (3, 1, 25) := by kernel_rfl
@[go_sem] theorem tfi27_4 : fieldT Go.Proofs.Tryz.prog 27 4 = some (4, 1, 25) := by kernel_rfl
@[go_sem] theorem tar27 : arrT Go.Proofs.Tryz.prog 27 = none := by kernel_rfl
@[go_sem] theorem tag27 : aggT Go.Proofs.Tryz.prog 27 = true := by kernel_rfl
@[go_sem] theorem tsz28 : szT Go.Proofs.Tryz.prog 28 = 1 := by kernel_rfl
attribute [go_sem] Go.Proofs.Tryz.underlying28
@[go_sem] theorem tel28 : elemT Go.Proofs.Tryz.prog 28 = some 40 := by kernel_rfl
@[go_sem] theorem tze28 : zeroA Go.Proofs.Tryz.prog 28 = some [.slice .cap0 3 []] := by kernel_rfl
@[go_sem] theorem tzo28 : zeroOk Go.Proofs.Tryz.prog 28 = true := by kernel_rfl
@[go_sem] theorem tby28 : bytesT Go.Proofs.Tryz.prog 28 = 24 := by kernel_rfl
@[go_sem] theorem tar28 : arrT Go.Proofs.Tryz.prog 28 = none := by kernel_rfl
@[go_sem] theorem tag28 : aggT Go.Proofs.Tryz.prog 28 = false := by kernel_rfl
@[go_sem] theorem tsz31 : szT Go.Proofs.Tryz.prog 31 = 1 := by kernel_rfl
attribute [go_sem] Go.Proofs.Tryz.underlying31
@[go_sem] theorem tze31 : zeroA Go.Proofs.Tryz.prog 31 = some [.nilp] := by kernel_rfl
@[go_sem] theorem tzo31 : zeroOk Go.Proofs.Tryz.prog 31 = true := by kernel_rfl
@[go_sem] theorem tby31 : bytesT Go.Proofs.Tryz.prog 31 = 8 := by kernel_rfl
@[go_sem] theorem tar31 : arrT Go.Proofs.Tryz.prog 31 = none := by kernel_rfl
@[go_sem] theorem tag31 : aggT Go.Proofs.Tryz.prog 31 = false := by kernel_rfl
@[go_sem] theorem tsz33 : szT Go.Proofs.Tryz.prog 33 = 1 := by kernel_rfl
attribute [go_sem] Go.Proofs.Tryz.underlying33
@[go_sem] theorem tze33 : zeroA Go.Proofs.Tryz.prog 33 = some [.nilp] := by kernel_rfl
@[go_sem] theorem tzo33 : zeroOk Go.Proofs.Tryz.prog 33 = true := by kernel_rfl
@[go_sem] theorem tby33 : bytesT Go.Proofs.Tryz.prog 33 = 8 := by kernel_rfl
@[go_sem] theorem tar33 : arrT Go.Proofs.Tryz.prog 33 = none := by kernel_rfl
@[go_sem] theorem tag33 : aggT Go.Proofs.Tryz.prog 33 = false := by kernel_rfl
@[go_sem] theorem tsz35 : szT Go.Proofs.Tryz.prog 35 = 1 := by kernel_rfl
attribute [go_sem] Go.Proofs.Tryz.underlying35
@[go_sem] theorem tel35 : elemT Go.Proofs.Tryz.prog 35 = some 104 := by kernel_rfl
@[go_sem] theorem tze35 : zeroA Go.Proofs.Tryz.prog 35 = some [.slice .cap0 27 []] := by kernel_rfl
@[go_sem] theorem tzo35 : zeroOk Go.Proofs.Tryz.prog 35 = true := by kernel_rfl
@[go_sem] theorem tby35 : bytesT Go.Proofs.Tryz.prog 35 = 24 := by kernel_rfl
@[go_sem] theorem tar35 : arrT Go.Proofs.Tryz.prog 35 = none := by kernel_rfl
@[go_sem] theorem tag35 : aggT Go.Proofs.Tryz.prog 35 = false := by kernel_rfl
@[go_sem] theorem tsz38 : szT Go.Proofs.Tryz.prog 38 = 1 := by kernel_rfl
attribute [go_sem] Go.Proofs.Tryz.underlying38
@[go_sem] theorem tel38 : elemT Go.Proofs.Tryz.prog 38 = some 5 := by kernel_rfl
@[go_sem] theorem tze38 : zeroA Go.Proofs.Tryz.prog 38 = some [.slice .cap0 1 []] := by kernel_rfl
@[go_sem] theorem tzo38 : zeroOk Go.Proofs.Tryz.prog 38 = true := by kernel_rfl
@[go_sem] theorem tby38 : bytesT Go.Proofs.Tryz.prog 38 = 24 := by kernel_rfl
@[go_sem] theorem tar38 : arrT Go.Proofs.Tryz.prog 38 = none := by kernel_rfl
@[go_sem] theorem tag38 : aggT Go.Proofs.Tryz.prog 38 = false := by kernel_rfl
@[go_sem] theorem tsz40 : szT Go.Proofs.Tryz.prog 40 = 3 := by kernel_rfl
attribute [go_sem] Go.Proofs.Tryz.underlying40
@[go_sem] theorem tze40 : zeroA Go.Proofs.Tryz.prog 40 = some [.int .u8 0, .int .i64 0, .slice .cap0 1 []] := by kernel_rfl
@[go_sem] theorem tzo40 : zeroOk Go.Proofs.Tryz.prog 40 = true := by kernel_rfl
@[go_sem] theorem tby40 : bytesT Go.Proofs.Tryz.prog 40 = 40 := by kernel_rfl
@[go_sem] theorem tpl40 : placesOk Go.Proofs.Tryz.prog 40 = true := by kernel_rfl
@[go_sem] theorem tfi40_0 : fieldT Go.Proofs.Tryz.prog 40 0 = some (0, 1, 5) := by kernel_rfl
@[go_sem] theorem tfi40_1 : fieldT Go.Proofs.Tryz.prog 40 1 = some (1, 1, 3) := by kernel_rfl
@[go_sem] theorem tfi40_2 : fieldT Go.Proofs.Tryz.prog 40 2 = some (2, 1, 38) := by kernel_rfl
@[go_sem] theorem tar40 : arrT Go.Proofs.Tryz.prog 40 = none := by kernel_rfl
@[go_sem] theorem tag40 : aggT Go.Proofs.Tryz.prog 40 = true := by kernel_rfl
@[go_sem] theorem tsz41 : szT Go.Proofs.Tryz.prog 41 = 1 := by kernel_rfl
attribute [go_sem] Go.Proofs.Tryz.underlying41
@[go_sem] theorem tel41 : elemT Go.Proofs.Tryz.prog 41 = some 115 := by kernel_rfl
@[go_sem] theorem tze41 : zeroA Go.Proofs.Tryz.prog 41 = some [.slice .cap0 24 []] := by kernel_rfl
@[go_sem] theorem tzo41 : zeroOk Go.Proofs.Tryz.prog 41 = true := by kernel_rfl
@[go_sem] theorem tby41 : bytesT Go.Proofs.Tryz.prog 41 = 24 := by kernel_rfl
@[go_sem] theorem tar41 : arrT Go.Proofs.Tryz.prog 41 = none := by kernel_rfl
@[go_sem] theorem tag41 : aggT Go.Proofs.Tryz.prog 41 = false := by kernel_rfl
@[go_sem] theorem tsz46 : szT Go.Proofs.Tryz.prog 46 = 3 := by kernel_rfl
attribute [go_sem] Go.Proofs.Tryz.underlying46
@[go_sem] theorem tze46 : zeroA Go.Proofs.Tryz.prog 46 = some [.int .i64 0, .int .i64 0, .int .i64 0] := by kernel_rfl
@[go_sem] theorem tzo46 : zeroOk Go.Proofs.Tryz.prog 46 = true := by kernel_rfl
@[go_sem] theorem tby46 : bytesT Go.Proofs.Tryz.prog 46 = 24 := by kernel_rfl
@[go_sem] theorem tpl46 : placesOk Go.Proofs.Tryz.prog 46 = true := by kernel_rfl
@[go_sem] theorem tfl46 : flatEq Go.Proofs.Tryz.prog 46 = true := by kernel_rfl
@[go_sem] theorem tar46 : arrT Go.Proofs.Tryz.prog 46 = some (3, 3) := by kernel_rfl
@[go_sem] theorem tag46 : aggT Go.Proofs.Tryz.prog 46 = true := by kernel_rfl
@[go_sem] theorem tsz48 : szT Go.Proofs.Tryz.prog 48 = 17 := by kernel_rfl
attribute [go_sem] Go.Proofs.Tryz.underlying48
@[go_sem] theorem tze48 : zeroA Go.Proofs.Tryz.prog 48 = some [.int .u32 0, .int .u32 0, .int .u32 0, .int .i64 0, .int .u32 0, .int .u32 0, .int .i64 0, .slice .cap0 3 [], .slice .cap0 3 [], .bool false, .int .i64 0, .int .i64 0, .int .i64 0, .int .i64 0, .bool false, .int .u32 0, .int .i64 0] := by kernel_rfl
@[go_sem] theorem tzo48 : zeroOk Go.Proofs.Tryz.prog 48 = true := by kernel_rfl
@[go_sem] theorem tby48 : bytesT Go.Proofs.Tryz.prog 48 = 144 := by kernel_rfl
@[go_sem] theorem tpl48 : placesOk Go.Proofs.Tryz.prog 48 = true := by kernel_rfl
@[go_sem] theorem tfi48_0 : fieldT Go.Proofs.Tryz.prog 48 0 = some (0, 4, 24) := by kernel_rfl
@[go_sem] theorem tfi48_1 : fieldT Go.Proofs.Tryz.prog 48 1 = some (4, 5, 27) := by kernel_rfl
@[go_sem] theorem tfi48_2 : fieldT Go.Proofs.Tryz.prog 48 2 = some (9, 1, 4) := by kernel_rfl
@[go_sem] theorem tfi48_3 : fieldT Go.Proofs.Tryz.prog 48 3 = some (10, 1, 3) := by kernel_rfl
@[go_sem] theorem tfi48_4 : fieldT Go.Proofs.Tryz.prog 48 4 = some (11, 3, 46) := by kernel_rfl
@[go_sem] theorem tfi48_5 : fieldT Go.Proofs.Tryz.prog 48 5 = some (14, 1, 4) := by kernel_rfl
@[go_sem] theorem tfi48_6 : fieldT Go.Proofs.Tryz.prog 48 6 = some (15, 1, 22) := by kernel_rfl
@[go_sem] theorem tfi48_7 : fieldT Go.Proofs.Tryz.prog 48 7 = some (16, 1, 3) := by kernel_rfl
@[go_sem] theorem tar48 : arrT Go.Proofs.Tryz.prog 48 = none := by kernel_rfl
@[go_sem] theorem tag48 : aggT Go.Proofs.Tryz.prog 48 = true := by kernel_rfl
@[go_sem] theorem tsz49 : szT Go.Proofs.Tryz.prog 49 = 1 := by kernel_rfl
attribute [go_sem] Go.Proofs.Tryz.underlying49
@[go_sem] theorem tze49 : zeroA Go.Proofs.Tryz.prog 49 = some [.nilp] := by kernel_rfl
@[go_sem] theorem tzo49 : zeroOk Go.Proofs.Tryz.prog 49 = true := by kernel_rfl
@[go_sem] theorem tby49 : bytesT Go.Proofs.Tryz.prog 49 = 8 := by kernel_rfl
@[go_sem] theorem tar49 : arrT Go.Proofs.Tryz.prog 49 = none := by kernel_rfl
@[go_sem] theorem tag49 : aggT Go.Proofs.Tryz.prog 49 = false := by kernel_rfl
@[go_sem] theorem tsz50 : szT Go.Proofs.Tryz.prog 50 = 2 := by kernel_rfl
attribute [go_sem] Go.Proofs.Tryz.underlying50
@[go_sem] theorem tze50 : zeroA Go.Proofs.Tryz.prog 50 = some [.nilp, .nilp] := by kernel_rfl
@[go_sem] theorem tzo50 : zeroOk Go.Proofs.Tryz.prog 50 = true := by kernel_rfl
@[go_sem] theorem tby50 : bytesT Go.Proofs.Tryz.prog 50 = 16 := by kernel_rfl
@[go_sem] theorem tpl50 : placesOk Go.Proofs.Tryz.prog 50 = true := by kernel_rfl
@[go_sem] theorem tar50 : arrT Go.Proofs.Tryz.prog 50 = some (2, 49) := by kernel_rfl
@[go_sem] theorem tag50 : aggT Go.Proofs.Tryz.prog 50 = true := by kernel_rfl
@[go_sem] theorem tsz51 : szT Go.Proofs.Tryz.prog 51 = 2 := by kernel_rfl
attribute [go_sem] Go.Proofs.Tryz.underlying51
@[go_sem] theorem tze51 : zeroA Go.Proofs.Tryz.prog 51 = some [.slice .cap0 1 [], .slice .cap0 1 []] := by kernel_rfl
@[go_sem] theorem tzo51 : zeroOk Go.Proofs.Tryz.prog 51 = true := by kernel_rfl
@[go_sem] theorem tby51 : bytesT Go.Proofs.Tryz.prog 51 = 48 := by kernel_rfl
@[go_sem] theorem tpl51 : placesOk Go.Proofs.Tryz.prog 51 = true := by kernel_rfl
@[go_sem] theorem tar51 : arrT Go.Proofs.Tryz.prog 51 = some (2, 38) := by kernel_rfl
@[go_sem] theorem tag51 : aggT Go.Proofs.Tryz.prog 51 = true := by kernel_rfl
@[go_sem] theorem tsz53 : szT Go.Proofs.Tryz.prog 53 = 13 := by kernel_rfl
attribute [go_sem] Go.Proofs.Tryz.underlying53
@[go_sem] theorem tze53 : zeroA Go.Proofs.Tryz.prog 53 = some [.int .u32 0, .int .u32 0, .int .u32 0, .int .i64 0, .int .u32 0, .int .u32 0, .int .i64 0, .slice .cap0 3 [], .slice .cap0 3 [], .nilp, .nilp, .slice .cap0 1 [], .slice .cap0 1 []] := by kernel_rfl
@[go_sem] theorem tzo53 : zeroOk Go.Proofs.Tryz.prog 53 = true := by kernel_rfl
@[go_sem] theorem tby53 : bytesT Go.Proofs.Tryz.prog 53 = 152 := by kernel_rfl
@[go_sem] theorem tpl53 : placesOk Go.Proofs.Tryz.prog 53 = true := by kernel_rfl
@[go_sem] theorem tfi53_0 : fieldT Go.Proofs.Tryz.prog 53 0 = some (0, 4, 24) := by kernel_rfl
@[go_sem] theorem tfi53_1 : fieldT Go.Proofs.Tryz.prog 53 1 = some (4, 5, 27) := by kernel_rfl
@[go_sem] theorem tfi53_2 : fieldT Go.Proofs.Tryz.prog 53 2 = some (9, 2, 50) := by kernel_rfl
@[go_sem] theorem tfi53_3 : fieldT Go.Proofs.Tryz.prog 53 3 = some (11, 2, 51) := by kernel_rfl
@[go_sem] theorem tar53 : arrT Go.Proofs.Tryz.prog 53 = none := by kernel_rfl
@[go_sem] theorem tag53 : aggT Go.Proofs.Tryz.prog 53 = true := by kernel_rfl
@[go_sem] theorem tsz57 : szT Go.Proofs.Tryz.prog 57 = 1 := by kernel_rfl
attribute [go_sem] Go.Proofs.Tryz.underlying57
@[go_sem] theorem tze57 : zeroA Go.Proofs.Tryz.prog 57 = some [.nilp] := by kernel_rfl
@[go_sem] theorem tzo57 : zeroOk Go.Proofs.Tryz.prog 57 = true := by kernel_rfl
@[go_sem] theorem tby57 : bytesT Go.Proofs.Tryz.prog 57 = 8 := by kernel_rfl
@[go_sem] theorem tar57 : arrT Go.Proofs.Tryz.prog 57 = none := by kernel_rfl
@[go_sem] theorem tag57 : aggT Go.Proofs.Tryz.prog 57 = false := by kernel_rfl
@[go_sem] theorem tsz58 : szT Go.Proofs.Tryz.prog 58 = 1 := by kernel_rfl
attribute [go_sem] Go.Proofs.Tryz.underlying58
@[go_sem] theorem tze58 : zeroA Go.Proofs.Tryz.prog 58 = some [.nilp] := by kernel_rfl
@[go_sem] theorem tzo58 : zeroOk Go.Proofs.Tryz.prog 58 = true := by kernel_rfl
@[go_sem] theorem tby58 : bytesT Go.Proofs.Tryz.prog 58 = 8 := by kernel_rfl
@[go_sem] theorem tar58 : arrT Go.Proofs.Tryz.prog 58 = none := by kernel_rfl
@[go_sem] theorem tag58 : aggT Go.Proofs.Tryz.prog 58 = false := by kernel_rfl
@[go_sem] theorem tsz60 : szT Go.Proofs.Tryz.prog 60 = 2 := by kernel_rfl
attribute [go_sem] Go.Proofs.Tryz.underlying60
@[go_sem] theorem tze60 : zeroA Go.Proofs.Tryz.prog 60 = some [.nilp, .nilp] := by kernel_rfl
@[go_sem] theorem tzo60 : zeroOk Go.Proofs.Tryz.prog 60 = true := by kernel_rfl
@[go_sem] theorem tby60 : bytesT Go.Proofs.Tryz.prog 60 = 16 := by kernel_rfl
@[go_sem] theorem tpl60 : placesOk Go.Proofs.Tryz.prog 60 = true := by kernel_rfl
@[go_sem] theorem tfi60_0 : fieldT Go.Proofs.Tryz.prog 60 0 = some (0, 1, 57) := by kernel_rfl
@[go_sem] theorem tfi60_1 : fieldT Go.Proofs.Tryz.prog 60 1 = some (1, 1, 58) := by kernel_rfl
@[go_sem] theorem tar60 : arrT Go.Proofs.Tryz.prog 60 = none := by kernel_rfl
@[go_sem] theorem tag60 : aggT Go.Proofs.Tryz.prog 60 = true := by kernel_rfl
@[go_sem] theorem tsz61 : szT Go.Proofs.Tryz.prog 61 = 4 := by kernel_rfl
attribute [go_sem] Go.Proofs.Tryz.underlying61
@[go_sem] theorem tze61 : zeroA Go.Proofs.Tryz.prog 61 = some [.nilp, .nilp, .nilp, .nilp] := by kernel_rfl
@[go_sem] theorem tzo61 : zeroOk Go.Proofs.Tryz.prog 61 = true := by kernel_rfl
@[go_sem] theorem tby61 : bytesT Go.Proofs.Tryz.prog 61 = 32 := by kernel_rfl
@[go_sem] theorem tpl61 : placesOk Go.Proofs.Tryz.prog 61 = true := by kernel_rfl
@[go_sem] theorem tar61 : arrT Go.Proofs.Tryz.prog 61 = some (2, 60) := by kernel_rfl
@[go_sem] theorem tag61 : aggT Go.Proofs.Tryz.prog 61 = true := by kernel_rfl
@[go_sem] theorem tsz63 : szT Go.Proofs.Tryz.prog 63 = 13 := by kernel_rfl
attribute [go_sem] Go.Proofs.Tryz.underlying63
@[go_sem] theorem tze63 : zeroA Go.Proofs.Tryz.prog 63 = some [.int .u32 0, .int .u32 0, .int .u32 0, .int .i64 0, .int .u32 0, .int .u32 0, .int .i64 0, .slice .cap0 3 [], .slice .cap0 3 [], .nilp, .nilp, .nilp, .nilp] := by kernel_rfl
@[go_sem] theorem tzo63 : zeroOk Go.Proofs.Tryz.prog 63 = true := by kernel_rfl
@[go_sem] theorem tby63 : bytesT Go.Proofs.Tryz.prog 63 = 120 := by kernel_rfl
@[go_sem] theorem tpl63 : placesOk Go.Proofs.Tryz.prog 63 = true := by kernel_rfl
@[go_sem] theorem tfi63_0 : fieldT Go.Proofs.Tryz.prog 63 0 = some (0, 4, 24) := by kernel_rfl
@[go_sem] theorem tfi63_1 : fieldT Go.Proofs.Tryz.prog 63 1 = some (4, 5, 27) := by kernel_rfl
@[go_sem] theorem tfi63_2 : fieldT Go.Proofs.Tryz.prog 63 2 = some (9, 4, 61) := by kernel_rfl
@[go_sem] theorem tar63 : arrT Go.Proofs.Tryz.prog 63 = none := by kernel_rfl
@[go_sem] theorem tag63 : aggT Go.Proofs.Tryz.prog 63 = true := by kernel_rfl
@[go_sem] theorem tsz64 : szT Go.Proofs.Tryz.prog 64 = 1 := by kernel_rfl
attribute [go_sem] Go.Proofs.Tryz.underlying64
@[go_sem] theorem tel64 : elemT Go.Proofs.Tryz.prog 64 = some 31 := by kernel_rfl
@[go_sem] theorem tze64 : zeroA Go.Proofs.Tryz.prog 64 = some [.slice .cap0 1 []] := by kernel_rfl
@[go_sem] theorem tzo64 : zeroOk Go.Proofs.Tryz.prog 64 = true := by kernel_rfl
@[go_sem] theorem tby64 : bytesT Go.Proofs.Tryz.prog 64 = 24 := by kernel_rfl
@[go_sem] theorem tar64 : arrT Go.Proofs.Tryz.prog 64 = none := by kernel_rfl
@[go_sem] theorem tag64 : aggT Go.Proofs.Tryz.prog 64 = false := by kernel_rfl
@[go_sem] theorem tsz70 : szT Go.Proofs.Tryz.prog 70 = 1 := by kernel_rfl
attribute [go_sem] Go.Proofs.Tryz.underlying70
@[go_sem] theorem tel70 : elemT Go.Proofs.Tryz.prog 70 = some 78 := by kernel_rfl
@[go_sem] theorem tze70 : zeroA Go.Proofs.Tryz.prog 70 = some [.slice .cap0 6 []] := by kernel_rfl
@[go_sem] theorem tzo70 : zeroOk Go.Proofs.Tryz.prog 70 = true := by kernel_rfl
@[go_sem] theorem tby70 : bytesT Go.Proofs.Tryz.prog 70 = 24 := by kernel_rfl
@[go_sem] theorem tar70 : arrT Go.Proofs.Tryz.prog 70 = none := by kernel_rfl
@[go_sem] theorem tag70 : aggT Go.Proofs.Tryz.prog 70 = false := by kernel_rfl
@[go_sem] theorem tsz73 : szT Go.Proofs.Tryz.prog 73 = 1 := by kernel_rfl
attribute [go_sem] Go.Proofs.Tryz.underlying73
@[go_sem] theorem tel73 : elemT Go.Proofs.Tryz.prog 73 = some 91 := by kernel_rfl
@[go_sem] theorem tze73 : zeroA Go.Proofs.Tryz.prog 73 = some [.slice .cap0 26 []] := by kernel_rfl
@[go_sem] theorem tzo73 : zeroOk Go.Proofs.Tryz.prog 73 = true := by kernel_rfl
@[go_sem] theorem tby73 : bytesT Go.Proofs.Tryz.prog 73 = 24 := by kernel_rfl
@[go_sem] theorem tar73 : arrT Go.Proofs.Tryz.prog 73 = none := by kernel_rfl
@[go_sem] theorem tag73 : aggT Go.Proofs.Tryz.prog 73 = false := by kernel_rfl
@[go_sem] theorem tsz76 : szT Go.Proofs.Tryz.prog 76 = 3 := by kernel_rfl
attribute [go_sem] Go.Proofs.Tryz.underlying76
@[go_sem] theorem tze76 : zeroA Go.Proofs.Tryz.prog 76 = some [.int .i64 0, .int .i64 0, .slice .cap0 1 []] := by kernel_rfl
@[go_sem] theorem tzo76 : zeroOk Go.Proofs.Tryz.prog 76 = true := by kernel_rfl
@[go_sem] theorem tby76 : bytesT Go.Proofs.Tryz.prog 76 = 40 := by kernel_rfl
@[go_sem] theorem tpl76 : placesOk Go.Proofs.Tryz.prog 76 = true := by kernel_rfl
@[go_sem] theorem tfi76_0 : fieldT Go.Proofs.Tryz.prog 76 0 = some (0, 1, 3) := by kernel_rfl
@[go_sem] theorem tfi76_1 : fieldT Go.Proofs.Tryz.prog 76 1 = some (1, 1, 3) := by kernel_rfl
@[go_sem] theorem tfi76_2 : fieldT Go.Proofs.Tryz.prog 76 2 = some (2, 1, 38) := by kernel_rfl
@[go_sem] theorem tar76 : arrT Go.Proofs.Tryz.prog 76 = none := by kernel_rfl
@[go_sem] theorem tag76 : aggT Go.Proofs.Tryz.prog 76 = true := by kernel_rfl
@[go_sem] theorem tsz78 : szT Go.Proofs.Tryz.prog 78 = 6 := by kernel_rfl
attribute [go_sem] Go.Proofs.Tryz.underlying78
@[go_sem] theorem tze78 : zeroA Go.Proofs.Tryz.prog 78 = some [.int .u8 0, .int .i64 0, .slice .cap0 1 [], .int .i64 0, .int .i64 0, .slice .cap0 1 []] := by kernel_rfl
@[go_sem] theorem tzo78 : zeroOk Go.Proofs.Tryz.prog 78 = true := by kernel_rfl
@[go_sem] theorem tby78 : bytesT Go.Proofs.Tryz.prog 78 = 80 := by kernel_rfl
@[go_sem] theorem tpl78 : placesOk Go.Proofs.Tryz.prog 78 = true := by kernel_rfl
@[go_sem] theorem tfi78_0 : fieldT Go.Proofs.Tryz.prog 78 0 = some (0, 1, 5) := by kernel_rfl
@[go_sem] theorem tfi78_1 : fieldT Go.Proofs.Tryz.prog 78 1 = some (1, 1, 3) := by kernel_rfl
@[go_sem] theorem tfi78_2 : fieldT Go.Proofs.Tryz.prog 78 2 = some (2, 1, 38) := by kernel_rfl
@[go_sem] theorem tfi78_3 : fieldT Go.Proofs.Tryz.prog 78 3 = some (3, 3, 76) := by kernel_rfl
@[go_sem] theorem tar78 : arrT Go.Proofs.Tryz.prog 78 = none := by kernel_rfl
@[go_sem] theorem tag78 : aggT Go.Proofs.Tryz.prog 78 = true := by kernel_rfl
@[go_sem] theorem tsz79 : szT Go.Proofs.Tryz.prog 79 = 1 := by kernel_rfl
attribute [go_sem] Go.Proofs.Tryz.underlying79
@[go_sem] theorem tel79 : elemT Go.Proofs.Tryz.prog 79 = some 3 := by kernel_rfl
@[go_sem] theorem tze79 : zeroA Go.Proofs.Tryz.prog 79 = some [.slice .cap0 1 []] := by kernel_rfl
@[go_sem] theorem tzo79 : zeroOk Go.Proofs.Tryz.prog 79 = true := by kernel_rfl
@[go_sem] theorem tby79 : bytesT Go.Proofs.Tryz.prog 79 = 24 := by kernel_rfl
@[go_sem] theorem tar79 : arrT Go.Proofs.Tryz.prog 79 = none := by kernel_rfl
@[go_sem] theorem tag79 : aggT Go.Proofs.Tryz.prog 79 = false := by kernel_rfl
@[go_sem] theorem tsz81 : szT Go.Proofs.Tryz.prog 81 = 7 := by kernel_rfl
attribute [go_sem] Go.Proofs.Tryz.underlying81
@[go_sem] theorem tze81 : zeroA Go.Proofs.Tryz.prog 81 = some [.int .i64 0, .int .i64 0, .int .i64 0, .slice .cap0 1 [], .int .i64 0, .int .i64 0, .slice .cap0 1 []] := by kernel_rfl
@[go_sem] theorem tzo81 : zeroOk Go.Proofs.Tryz.prog 81 = true := by kernel_rfl
@[go_sem] theorem tby81 : bytesT Go.Proofs.Tryz.prog 81 = 88 := by kernel_rfl
@[go_sem] theorem tpl81 : placesOk Go.Proofs.Tryz.prog 81 = true := by kernel_rfl
@[go_sem] theorem tfi81_0 : fieldT Go.Proofs.Tryz.prog 81 0 = some (0, 1, 3) := by kernel_rfl
@[go_sem] theorem tfi81_1 : fieldT Go.Proofs.Tryz.prog 81 1 = some (1, 1, 3) := by kernel_rfl
@[go_sem] theorem tfi81_2 : fieldT Go.Proofs.Tryz.prog 81 2 = some (2, 1, 3) := by kernel_rfl
@[go_sem] theorem tfi81_3 : fieldT Go.Proofs.Tryz.prog 81 3 = some (3, 1, 79) := by kernel_rfl
@[go_sem] theorem tfi81_4 : fieldT Go.Proofs.Tryz.prog 81 4 = some (4, 3, 76) := by kernel_rfl
@[go_sem] theorem tar81 : arrT Go.Proofs.Tryz.prog 81 = none := by kernel_rfl
@[go_sem] theorem tag81 : aggT Go.Proofs.Tryz.prog 81 = true := by kernel_rfl
@[go_sem] theorem tsz82 : szT Go.Proofs.Tryz.prog 82 = 1 := by kernel_rfl
attribute [go_sem] Go.Proofs.Tryz.underlying82
@[go_sem] theorem tel82 : elemT Go.Proofs.Tryz.prog 82 = some 220 := by kernel_rfl
@[go_sem] theorem tze82 : zeroA Go.Proofs.Tryz.prog 82 = some [.slice .cap0 2 []] := by kernel_rfl
@[go_sem] theorem tzo82 : zeroOk Go.Proofs.Tryz.prog 82 = true := by kernel_rfl
@[go_sem] theorem tby82 : bytesT Go.Proofs.Tryz.prog 82 = 24 := by kernel_rfl
@[go_sem] theorem tar82 : arrT Go.Proofs.Tryz.prog 82 = none := by kernel_rfl
@[go_sem] theorem tag82 : aggT Go.Proofs.Tryz.prog 82 = false := by kernel_rfl
@[go_sem] theorem tsz83 : szT Go.Proofs.Tryz.prog 83 = 1 := by kernel_rfl
attribute [go_sem] Go.Proofs.Tryz.underlying83
@[go_sem] theorem tel83 : elemT Go.Proofs.Tryz.prog 83 = some 245 := by kernel_rfl
@[go_sem] theorem tze83 : zeroA Go.Proofs.Tryz.prog 83 = some [.slice .cap0 2 []] := by kernel_rfl
@[go_sem] theorem tzo83 : zeroOk Go.Proofs.Tryz.prog 83 = true := by kernel_rfl
@[go_sem] theorem tby83 : bytesT Go.Proofs.Tryz.prog 83 = 24 := by kernel_rfl
@[go_sem] theorem tar83 : arrT Go.Proofs.Tryz.prog 83 = none := by kernel_rfl
@[go_sem] theorem tag83 : aggT Go.Proofs.Tryz.prog 83 = false := by kernel_rfl
@[go_sem] theorem tsz84 : szT Go.Proofs.Tryz.prog 84 = 1 := by kernel_rfl
attribute [go_sem] Go.Proofs.Tryz.underlying84
@[go_sem] theorem tel84 : elemT Go.Proofs.Tryz.prog 84 = some 22 := by kernel_rfl
@[go_sem] theorem tze84 : zeroA Go.Proofs.Tryz.prog 84 = some [.slice .cap0 1 []] := by kernel_rfl
@[go_sem] theorem tzo84 : zeroOk Go.Proofs.Tryz.prog 84 = true := by kernel_rfl
@[go_sem] theorem tby84 : bytesT Go.Proofs.Tryz.prog 84 = 24 := by kernel_rfl
@[go_sem] theorem tar84 : arrT Go.Proofs.Tryz.prog 84 = none := by kernel_rfl
@[go_sem] theorem tag84 : aggT Go.Proofs.Tryz.prog 84 = false := by kernel_rfl
@[go_sem] theorem tsz85 : szT Go.Proofs.Tryz.prog 85 = 1 := by kernel_rfl
attribute [go_sem] Go.Proofs.Tryz.underlying85
@[go_sem] theorem tel85 : elemT Go.Proofs.Tryz.prog 85 = some 224 := by kernel_rfl
@[go_sem] theorem tze85 : zeroA Go.Proofs.Tryz.prog 85 = some [.slice .cap0 3 []] := by kernel_rfl
@[go_sem] theorem tzo85 : zeroOk Go.Proofs.Tryz.prog 85 = true := by kernel_rfl
@[go_sem] theorem tby85 : bytesT Go.Proofs.Tryz.prog 85 = 24 := by kernel_rfl
@[go_sem] theorem tar85 : arrT Go.Proofs.Tryz.prog 85 = none := by kernel_rfl
@[go_sem] theorem tag85 : aggT Go.Proofs.Tryz.prog 85 = false := by kernel_rfl
@[go_sem] theorem tsz87 : szT Go.Proofs.Tryz.prog 87 = 11 := by kernel_rfl
attribute [go_sem] Go.Proofs.Tryz.underlying87
@[go_sem] theorem tze87 : zeroA Go.Proofs.Tryz.prog 87 = some [.int .i64 0, .slice .cap0 2 [], .int .u32 0, .int .i64 0, .int .i64 0, .bool false, .bool false, .int .u32 0, .int .u32 0, .slice .cap0 1 [], .slice .cap0 3 []] := by kernel_rfl
@[go_sem] theorem tzo87 : zeroOk Go.Proofs.Tryz.prog 87 = true := by kernel_rfl
@[go_sem] theorem tby87 : bytesT Go.Proofs.Tryz.prog 87 = 120 := by kernel_rfl
@[go_sem] theorem tpl87 : placesOk Go.Proofs.Tryz.prog 87 = true := by kernel_rfl
@[go_sem] theorem tfi87_0 : fieldT Go.Proofs.Tryz.prog 87 0 = some (0, 1, 3) := by kernel_rfl
@[go_sem] theorem tfi87_1 : fieldT Go.Proofs.Tryz.prog 87 1 = some (1, 1, 83) := by kernel_rfl
@[go_sem] theorem tfi87_2 : fieldT Go.Proofs.Tryz.prog 87 2 = some (2, 1, 22) := by kernel_rfl
@[go_sem] theorem tfi87_3 : fieldT Go.Proofs.Tryz.prog 87 3 = some (3, 1, 3) := by kernel_rfl
@[go_sem] theorem tfi87_4 : fieldT Go.Proofs.Tryz.prog 87 4 = some (4, 1, 3) := by kernel_rfl
@[go_sem] theorem tfi87_5 : fieldT Go.Proofs.Tryz.prog 87 5 = some (5, 1, 4) := by kernel_rfl
@[go_sem] theorem tfi87_6 : fieldT Go.Proofs.Tryz.prog 87 6 = some (6, 1, 4) := by kernel_rfl
@[go_sem] theorem tfi87_7 : fieldT Go.Proofs.Tryz.prog 87 7 = some (7, 1, 22) := by kernel_rfl
@[go_sem] theorem tfi87_8 : fieldT Go.Proofs.Tryz.prog 87 8 = some (8, 1, 22) := by kernel_rfl
@[go_sem] theorem tfi87_9 : fieldT Go.Proofs.Tryz.prog 87 9 = some (9, 1, 84) := by kernel_rfl
@[go_sem] theorem tfi87_10 : fieldT Go.Proofs.Tryz.prog 87 10 = some (10, 1, 85) := by kernel_rfl
@[go_sem] theorem tar87 : arrT Go.Proofs.Tryz.prog 87 = none := by kernel_rfl
@[go_sem] theorem tag87 : aggT Go.Proofs.Tryz.prog 87 = true := by kernel_rfl
@[go_sem] theorem tsz89 : szT Go.Proofs.Tryz.prog 89 = 13 := by kernel_rfl
attribute [go_sem] Go.Proofs.Tryz.underlying89
@[go_sem] theorem tze89 : zeroA Go.Proofs.Tryz.prog 89 = some [.slice .cap0 2 [], .int .i64 0, .slice .cap0 2 [], .int .u32 0, .int .i64 0, .int .i64 0, .bool false, .bool false, .int .u32 0, .int .u32 0, .slice .cap0 1 [], .slice .cap0 3 [], .slice .cap0 2 []] := by kernel_rfl
@[go_sem] theorem tzo89 : zeroOk Go.Proofs.Tryz.prog 89 = true := by kernel_rfl
@[go_sem] theorem tby89 : bytesT Go.Proofs.Tryz.prog 89 = 168 := by kernel_rfl
@[go_sem] theorem tpl89 : placesOk Go.Proofs.Tryz.prog 89 = true := by kernel_rfl
@[go_sem] theorem tfi89_0 : fieldT Go.Proofs.Tryz.prog 89 0 = some (0, 1, 82) := by kernel_rfl
@[go_sem] theorem tfi89_1 : fieldT Go.Proofs.Tryz.prog 89 1 = some (1, 11, 87) := by kernel_rfl
@[go_sem] theorem tfi89_2 : fieldT Go.Proofs.Tryz.prog 89 2 = some (12, 1, 82) := by kernel_rfl
@[go_sem] theorem tar89 : arrT Go.Proofs.Tryz.prog 89 = none := by kernel_rfl
@[go_sem] theorem tag89 : aggT Go.Proofs.Tryz.prog 89 = true := by kernel_rfl
@[go_sem] theorem tsz91 : szT Go.Proofs.Tryz.prog 91 = 26 := by kernel_rfl
attribute [go_sem] Go.Proofs.Tryz.underlying91
@[go_sem] theorem tze91 : zeroA Go.Proofs.Tryz.prog 91 = some [.int .i64 0, .int .i64 0, .int .i64 0, .slice .cap0 1 [], .int .i64 0, .int .i64 0, .slice .cap0 1 [], .slice .cap0 1 [], .slice .cap0 2 [], .int .i64 0, .slice .cap0 2 [], .int .u32 0, .int .i64 0, .int .i64 0, .bool false, .bool false, .int .u32 0, .int .u32 0, .slice .cap0 1 [], .slice .cap0 3 [], .slice .cap0 2 [], .bool false, .bool false, .bool false, .bool false, .bool false] := by kernel_rfl
@[go_sem] theorem tzo91 : zeroOk Go.Proofs.Tryz.prog 91 = true := by kernel_rfl
@[go_sem] theorem tby91 : bytesT Go.Proofs.Tryz.prog 91 = 288 := by kernel_rfl
@[go_sem] theorem tpl91 : placesOk Go.Proofs.Tryz.prog 91 = true := by kernel_rfl
@[go_sem] theorem tfi91_0 : fieldT Go.Proofs.Tryz.prog 91 0 = some (0, 7, 81) := by kernel_rfl
@[go_sem] theorem tfi91_1 : fieldT Go.Proofs.Tryz.prog 91 1 = some (7, 1, 38) := by kernel_rfl
@[go_sem] theorem tfi91_2 : fieldT Go.Proofs.Tryz.prog 91 2 = some (8, 13, 89) := by kernel_rfl
@[go_sem] theorem tfi91_3 : fieldT Go.Proofs.Tryz.prog 91 3 = some (21, 1, 4) := by kernel_rfl
@[go_sem] theorem tfi91_4 : fieldT Go.Proofs.Tryz.prog 91 4 = some (22, 1, 4) := by kernel_rfl
@[go_sem] theorem tfi91_5 : fieldT Go.Proofs.Tryz.prog 91 5 = some (23, 1, 4) := by kernel_rfl
@[go_sem] theorem tfi91_6 : fieldT Go.Proofs.Tryz.prog 91 6 = some (24, 1, 4) := by kernel_rfl
@[go_sem] theorem tfi91_7 : fieldT Go.Proofs.Tryz.prog 91 7 = some (25, 1, 4) := by kernel_rfl
@[go_sem] theorem tar91 : arrT Go.Proofs.Tryz.prog 91 = none := by kernel_rfl
@[go_sem] theorem tag91 : aggT Go.Proofs.Tryz.prog 91 = true := by kernel_rfl
@[go_sem] theorem tsz96 : szT Go.Proofs.Tryz.prog 96 = 3 := by kernel_rfl
attribute [go_sem] Go.Proofs.Tryz.underlying96
@[go_sem] theorem tze96 : zeroA Go.Proofs.Tryz.prog 96 = some [.int .i64 0, .int .i64 0, .int .i64 0] := by kernel_rfl
@[go_sem] theorem tzo96 : zeroOk Go.Proofs.Tryz.prog 96 = true := by kernel_rfl
@[go_sem] theorem tby96 : bytesT Go.Proofs.Tryz.prog 96 = 24 := by kernel_rfl
@[go_sem] theorem tpl96 : placesOk Go.Proofs.Tryz.prog 96 = true := by kernel_rfl
@[go_sem] theorem tfi96_0 : fieldT Go.Proofs.Tryz.prog 96 0 = some (0, 3, 46) := by kernel_rfl
@[go_sem] theorem tar96 : arrT Go.Proofs.Tryz.prog 96 = none := by kernel_rfl
@[go_sem] theorem tag96 : aggT Go.Proofs.Tryz.prog 96 = true := by kernel_rfl
@[go_sem] theorem tsz101 : szT Go.Proofs.Tryz.prog 101 = 1 := by kernel_rfl
attribute [go_sem] Go.Proofs.Tryz.underlying101
@[go_sem] theorem tel101 : elemT Go.Proofs.Tryz.prog 101 = some 113 := by kernel_rfl
@[go_sem] theorem tze101 : zeroA Go.Proofs.Tryz.prog 101 = some [.slice .cap0 23 []] := by kernel_rfl
@[go_sem] theorem tzo101 : zeroOk Go.Proofs.Tryz.prog 101 = true := by kernel_rfl
@[go_sem] theorem tby101 : bytesT Go.Proofs.Tryz.prog 101 = 24 := by kernel_rfl
@[go_sem] theorem tar101 : arrT Go.Proofs.Tryz.prog 101 = none := by kernel_rfl
@[go_sem] theorem tag101 : aggT Go.Proofs.Tryz.prog 101 = false := by kernel_rfl
@[go_sem] theorem tsz104 : szT Go.Proofs.Tryz.prog 104 = 27 := by kernel_rfl
attribute [go_sem] Go.Proofs.Tryz.underlying104
@[go_sem] theorem tze104 : zeroA Go.Proofs.Tryz.prog 104 = some [.int .i64 0, .int .i64 0, .int .i64 0, .int .i64 0, .slice .cap0 1 [], .int .i64 0, .int .i64 0, .slice .cap0 1 [], .slice .cap0 1 [], .slice .cap0 2 [], .int .i64 0, .slice .cap0 2 [], .int .u32 0, .int .i64 0, .int .i64 0, .bool false, .bool false, .int .u32 0, .int .u32 0, .slice .cap0 1 [], .slice .cap0 3 [], .slice .cap0 2 [], .bool false, .bool false, .bool false, .bool false, .bool false] := by kernel_rfl
@[go_sem] theorem tzo104 : zeroOk Go.Proofs.Tryz.prog 104 = true := by kernel_rfl
@[go_sem] theorem tby104 : bytesT Go.Proofs.Tryz.prog 104 = 296 := by kernel_rfl
@[go_sem] theorem tpl104 : placesOk Go.Proofs.Tryz.prog 104 = true := by kernel_rfl
@[go_sem] theorem tfi104_0 : fieldT Go.Proofs.Tryz.prog 104 0 = some (0, 1, 3) := by kernel_rfl
@[go_sem] theorem tfi104_1 : fieldT Go.Proofs.Tryz.prog 104 1 = some (1, 26, 91) := by kernel_rfl
@[go_sem] theorem tar104 : arrT Go.Proofs.Tryz.prog 104 = none := by kernel_rfl
@[go_sem] theorem tag104 : aggT Go.Proofs.Tryz.prog 104 = true := by kernel_rfl
@[go_sem] theorem tsz113 : szT Go.Proofs.Tryz.prog 113 = 23 := by kernel_rfl
attribute [go_sem] Go.Proofs.Tryz.underlying113
@[go_sem] theorem tze113 : zeroA Go.Proofs.Tryz.prog 113 = some [.int .i64 0, .int .i64 0, .int .i64 0, .slice .cap0 1 [], .int .i64 0, .int .i64 0, .slice .cap0 1 [], .slice .cap0 1 [], .slice .cap0 2 [], .int .i64 0, .slice .cap0 2 [], .int .u32 0, .int .i64 0, .int .i64 0, .bool false, .bool false, .int .u32 0, .int .u32 0, .slice .cap0 1 [], .slice .cap0 3 [], .slice .cap0 2 [], .bool false, .int .i64 0] := by kernel_rfl
@[go_sem] theorem tzo113 : zeroOk Go.Proofs.Tryz.prog 113 = true := by kernel_rfl
@[go_sem] theorem tby113 : bytesT Go.Proofs.Tryz.prog 113 = 296 := by kernel_rfl
@[go_sem] theorem tpl113 : placesOk Go.Proofs.Tryz.prog 113 = true := by kernel_rfl
@[go_sem] theorem tfi113_0 : fieldT Go.Proofs.Tryz.prog 113 0 = some (0, 7, 81) := by kernel_rfl
@[go_sem] theorem tfi113_1 : fieldT Go.Proofs.Tryz.prog 113 1 = some (7, 1, 38) := by kernel_rfl
@[go_sem] theorem tfi113_2 : fieldT Go.Proofs.Tryz.prog 113 2 = some (8, 13, 89) := by kernel_rfl
@[go_sem] theorem tfi113_3 : fieldT Go.Proofs.Tryz.prog 113 3 = some (21, 1, 4) := by kernel_rfl
@[go_sem] theorem tfi113_4 : fieldT Go.Proofs.Tryz.prog 113 4 = some (22, 1, 3) := by kernel_rfl
@[go_sem] theorem tar113 : arrT Go.Proofs.Tryz.prog 113 = none := by kernel_rfl
@[go_sem] theorem tag113 : aggT Go.Proofs.Tryz.prog 113 = true := by kernel_rfl
@[go_sem] theorem tsz115 : szT Go.Proofs.Tryz.prog 115 = 24 := by kernel_rfl
attribute [go_sem] Go.Proofs.Tryz.underlying115
@[go_sem] theorem tze115 : zeroA Go.Proofs.Tryz.prog 115 = some [.int .i64 0, .int .i64 0, .int .i64 0, .int .i64 0, .slice .cap0 1 [], .int .i64 0, .int .i64 0, .slice .cap0 1 [], .slice .cap0 1 [], .slice .cap0 2 [], .int .i64 0, .slice .cap0 2 [], .int .u32 0, .int .i64 0, .int .i64 0, .bool false, .bool false, .int .u32 0, .int .u32 0, .slice .cap0 1 [], .slice .cap0 3 [], .slice .cap0 2 [], .bool false, .int .i64 0] := by kernel_rfl
@[go_sem] theorem tzo115 : zeroOk Go.Proofs.Tryz.prog 115 = true := by kernel_rfl
@[go_sem] theorem tby115 : bytesT Go.Proofs.Tryz.prog 115 = 304 := by kernel_rfl
@[go_sem] theorem tpl115 : placesOk Go.Proofs.Tryz.prog 115 = true := by kernel_rfl
@[go_sem] theorem tfi115_0 : fieldT Go.Proofs.Tryz.prog 115 0 = some (0, 1, 3) := by kernel_rfl
@[go_sem] theorem tfi115_1 : fieldT Go.Proofs.Tryz.prog 115 1 = some (1, 23, 113) := by kernel_rfl
@[go_sem] theorem tar115 : arrT Go.Proofs.Tryz.prog 115 = none := by kernel_rfl
@[go_sem] theorem tag115 : aggT Go.Proofs.Tryz.prog 115 = true := by kernel_rfl
@[go_sem] theorem tsz131 : szT Go.Proofs.Tryz.prog 131 = 17 := by kernel_rfl
attribute [go_sem] Go.Proofs.Tryz.underlying131
@[go_sem] theorem tze131 : zeroA Go.Proofs.Tryz.prog 131 = some [.int .u32 0, .int .u32 0, .int .u32 0, .int .i64 0, .int .u32 0, .int .u32 0, .int .i64 0, .slice .cap0 3 [], .slice .cap0 3 [], .bool false, .int .i64 0, .int .i64 0, .int .i64 0, .int .i64 0, .bool false, .int .u32 0, .int .i64 0] := by kernel_rfl
@[go_sem] theorem tzo131 : zeroOk Go.Proofs.Tryz.prog 131 = true := by kernel_rfl
@[go_sem] theorem tby131 : bytesT Go.Proofs.Tryz.prog 131 = 144 := by kernel_rfl
@[go_sem] theorem tpl131 : placesOk Go.Proofs.Tryz.prog 131 = true := by kernel_rfl
@[go_sem] theorem tfi131_0 : fieldT Go.Proofs.Tryz.prog 131 0 = some (0, 4, 24) := by kernel_rfl
@[go_sem] theorem tfi131_1 : fieldT Go.Proofs.Tryz.prog 131 1 = some (4, 5, 27) := by kernel_rfl
@[go_sem] theorem tfi131_2 : fieldT Go.Proofs.Tryz.prog 131 2 = some (9, 1, 4) := by kernel_rfl
@[go_sem] theorem tfi131_3 : fieldT Go.Proofs.Tryz.prog 131 3 = some (10, 1, 3) := by kernel_rfl
@[go_sem] theorem tfi131_4 : fieldT Go.Proofs.Tryz.prog 131 4 = some (11, 3, 96) := by kernel_rfl
@[go_sem] theorem tfi131_5 : fieldT Go.Proofs.Tryz.prog 131 5 = some (14, 1, 4) := by kernel_rfl
@[go_sem] theorem tfi131_6 : fieldT Go.Proofs.Tryz.prog 131 6 = some (15, 1, 22) := by kernel_rfl
@[go_sem] theorem tfi131_7 : fieldT Go.Proofs.Tryz.prog 131 7 = some (16, 1, 3) := by kernel_rfl
@[go_sem] theorem tar131 : arrT Go.Proofs.Tryz.prog 131 = none := by kernel_rfl
@[go_sem] theorem tag131 : aggT Go.Proofs.Tryz.prog 131 = true := by kernel_rfl
@[go_sem] theorem tsz137 : szT Go.Proofs.Tryz.prog 137 = 1 := by kernel_rfl
attribute [go_sem] Go.Proofs.Tryz.underlying137
@[go_sem] theorem tze137 : zeroA Go.Proofs.Tryz.prog 137 = some [.int .i64 0] := by kernel_rfl
@[go_sem] theorem tzo137 : zeroOk Go.Proofs.Tryz.prog 137 = true := by kernel_rfl
@[go_sem] theorem tby137 : bytesT Go.Proofs.Tryz.prog 137 = 8 := by kernel_rfl
@[go_sem] theorem tar137 : arrT Go.Proofs.Tryz.prog 137 = none := by kernel_rfl
@[go_sem] theorem tin137 : intT Go.Proofs.Tryz.prog 137 = some .i64 := by kernel_rfl
@[go_sem] theorem tag137 : aggT Go.Proofs.Tryz.prog 137 = false := by kernel_rfl
@[go_sem] theorem tsz140 : szT Go.Proofs.Tryz.prog 140 = 1 := by kernel_rfl
attribute [go_sem] Go.Proofs.Tryz.underlying140
@[go_sem] theorem tel140 : elemT Go.Proofs.Tryz.prog 140 = some 180 := by kernel_rfl
@[go_sem] theorem tze140 : zeroA Go.Proofs.Tryz.prog 140 = some [.slice .cap0 2 []] := by kernel_rfl
@[go_sem] theorem tzo140 : zeroOk Go.Proofs.Tryz.prog 140 = true := by kernel_rfl
@[go_sem] theorem tby140 : bytesT Go.Proofs.Tryz.prog 140 = 24 := by kernel_rfl
@[go_sem] theorem tar140 : arrT Go.Proofs.Tryz.prog 140 = none := by kernel_rfl
@[go_sem] theorem tag140 : aggT Go.Proofs.Tryz.prog 140 = false := by kernel_rfl
@[go_sem] theorem tsz142 : szT Go.Proofs.Tryz.prog 142 = 5 := by kernel_rfl
attribute [go_sem] Go.Proofs.Tryz.underlying142
@[go_sem] theorem tze142 : zeroA Go.Proofs.Tryz.prog 142 = some [.int .i64 0, .int .i64 0, .int .i64 0, .int .u32 0, .slice .cap0 2 []] := by kernel_rfl
@[go_sem] theorem tzo142 : zeroOk Go.Proofs.Tryz.prog 142 = true := by kernel_rfl
@[go_sem] theorem tby142 : bytesT Go.Proofs.Tryz.prog 142 = 56 := by kernel_rfl
@[go_sem] theorem tpl142 : placesOk Go.Proofs.Tryz.prog 142 = true := by kernel_rfl
@[go_sem] theorem tfi142_0 : fieldT Go.Proofs.Tryz.prog 142 0 = some (0, 1, 3) := by kernel_rfl
@[go_sem] theorem tfi142_1 : fieldT Go.Proofs.Tryz.prog 142 1 = some (1, 1, 3) := by kernel_rfl
@[go_sem] theorem tfi142_2 : fieldT Go.Proofs.Tryz.prog 142 2 = some (2, 1, 3) := by kernel_rfl
@[go_sem] theorem tfi142_3 : fieldT Go.Proofs.Tryz.prog 142 3 = some (3, 1, 22) := by kernel_rfl
@[go_sem] theorem tfi142_4 : fieldT Go.Proofs.Tryz.prog 142 4 = some (4, 1, 140) := by kernel_rfl
@[go_sem] theorem tar142 : arrT Go.Proofs.Tryz.prog 142 = none := by kernel_rfl
@[go_sem] theorem tag142 : aggT Go.Proofs.Tryz.prog 142 = true := by kernel_rfl
@[go_sem] theorem tsz153 : szT Go.Proofs.Tryz.prog 153 = 4 := by kernel_rfl
attribute [go_sem] Go.Proofs.Tryz.underlying153
@[go_sem] theorem tze153 : zeroA Go.Proofs.Tryz.prog 153 = some [.slice .cap0 1 [], .int .i64 0, .int .i64 0, .slice .cap0 1 []] := by kernel_rfl
@[go_sem] theorem tzo153 : zeroOk Go.Proofs.Tryz.prog 153 = true := by kernel_rfl
@[go_sem] theorem tby153 : bytesT Go.Proofs.Tryz.prog 153 = 64 := by kernel_rfl
@[go_sem] theorem tpl153 : placesOk Go.Proofs.Tryz.prog 153 = true := by kernel_rfl
@[go_sem] theorem tfi153_0 : fieldT Go.Proofs.Tryz.prog 153 0 = some (0, 1, 38) := by kernel_rfl
@[go_sem] theorem tfi153_1 : fieldT Go.Proofs.Tryz.prog 153 1 = some (1, 3, 76) := by kernel_rfl
@[go_sem] theorem tar153 : arrT Go.Proofs.Tryz.prog 153 = none := by kernel_rfl
@[go_sem] theorem tag153 : aggT Go.Proofs.Tryz.prog 153 = true := by kernel_rfl
@[go_sem] theorem tsz165 : szT Go.Proofs.Tryz.prog 165 = 6 := by kernel_rfl
attribute [go_sem] Go.Proofs.Tryz.underlying165
@[go_sem] theorem tze165 : zeroA Go.Proofs.Tryz.prog 165 = some [.str [], .str [], .str [], .str [], .str [], .str []] := by kernel_rfl
@[go_sem] theorem tzo165 : zeroOk Go.Proofs.Tryz.prog 165 = true := by kernel_rfl
@[go_sem] theorem tby165 : bytesT Go.Proofs.Tryz.prog 165 = 96 := by kernel_rfl
@[go_sem] theorem tpl165 : placesOk Go.Proofs.Tryz.prog 165 = true := by kernel_rfl
@[go_sem] theorem tar165 : arrT Go.Proofs.Tryz.prog 165 = some (6, 9) := by kernel_rfl
@[go_sem] theorem tag165 : aggT Go.Proofs.Tryz.prog 165 = true := by kernel_rfl
@[go_sem] theorem tsz166 : szT Go.Proofs.Tryz.prog 166 = 1 := by kernel_rfl
attribute [go_sem] Go.Proofs.Tryz.underlying166
@[go_sem] theorem tel166 : elemT Go.Proofs.Tryz.prog 166 = some 9 := by kernel_rfl
@[go_sem] theorem tze166 : zeroA Go.Proofs.Tryz.prog 166 = some [.slice .cap0 1 []] := by kernel_rfl
@[go_sem] theorem tzo166 : zeroOk Go.Proofs.Tryz.prog 166 = true := by kernel_rfl
@[go_sem] theorem tby166 : bytesT Go.Proofs.Tryz.prog 166 = 24 := by kernel_rfl
@[go_sem] theorem tar166 : arrT Go.Proofs.Tryz.prog 166 = none := by kernel_rfl
@[go_sem] theorem tag166 : aggT Go.Proofs.Tryz.prog 166 = false := by kernel_rfl
@[go_sem] theorem tsz170 : szT Go.Proofs.Tryz.prog 170 = 2 := by kernel_rfl
attribute [go_sem] Go.Proofs.Tryz.underlying170
@[go_sem] theorem tze170 : zeroA Go.Proofs.Tryz.prog 170 = some [.int .i64 0, .int .i64 0] := by kernel_rfl
@[go_sem] theorem tzo170 : zeroOk Go.Proofs.Tryz.prog 170 = true := by kernel_rfl
@[go_sem] theorem tby170 : bytesT Go.Proofs.Tryz.prog 170 = 16 := by kernel_rfl
@[go_sem] theorem tpl170 : placesOk Go.Proofs.Tryz.prog 170 = true := by kernel_rfl
@[go_sem] theorem tfl170 : flatEq Go.Proofs.Tryz.prog 170 = true := by kernel_rfl
@[go_sem] theorem tfi170_0 : fieldT Go.Proofs.Tryz.prog 170 0 = some (0, 1, 3) := by kernel_rfl
@[go_sem] theorem tfi170_1 : fieldT Go.Proofs.Tryz.prog 170 1 = some (1, 1, 3) := by kernel_rfl
@[go_sem] theorem tar170 : arrT Go.Proofs.Tryz.prog 170 = none := by kernel_rfl
@[go_sem] theorem tag170 : aggT Go.Proofs.Tryz.prog 170 = true := by kernel_rfl
@[go_sem] theorem tsz171 : szT Go.Proofs.Tryz.prog 171 = 32 := by kernel_rfl
attribute [go_sem] Go.Proofs.Tryz.underlying171
@[go_sem] theorem tze171 : zeroA Go.Proofs.Tryz.prog 171 = some [.int .i64 0, .int .i64 0, .int .i64 0, .int .i64 0, .int .i64 0, .int .i64 0, .int .i64 0, .int .i64 0, .int .i64 0, .int .i64 0, .int .i64 0, .int .i64 0, .int .i64 0, .int .i64 0, .int .i64 0, .int .i64 0, .int .i64 0, .int .i64 0, .int .i64 0, .int .i64 0, .int .i64 0, .int .i64 0, .int .i64 0, .int .i64 0, .int .i64 0, .int .i64 0, .int .i64 0, .int .i64 0, .int .i64 0, .int .i64 0, .int .i64 0, .int .i64 0] := by kernel_rfl
@[go_sem] theorem tzo171 : zeroOk Go.Proofs.Tryz.prog 171 = true := by kernel_rfl
@[go_sem] theorem tby171 : bytesT Go.Proofs.Tryz.prog 171 = 256 := by kernel_rfl
@[go_sem] theorem tpl171 : placesOk Go.Proofs.Tryz.prog 171 = true := by kernel_rfl
@[go_sem] theorem tar171 : arrT Go.Proofs.Tryz.prog 171 = some (16, 170) := by kernel_rfl
@[go_sem] theorem tag171 : aggT Go.Proofs.Tryz.prog 171 = true := by kernel_rfl
@[go_sem] theorem tsz172 : szT Go.Proofs.Tryz.prog 172 = 192 := by kernel_rfl
attribute [go_sem] Go.Proofs.Tryz.underlying172
@[go_sem] theorem tze172 : zeroA Go.Proofs.Tryz.prog 172 = some [.int .i64 0, .int .i64 0, .int .i64 0, .int .i64 0, .int .i64 0, .int .i64 0, .int .i64 0, .int .i64 0, .int .i64 0, .int .i64 0, .int .i64 0, .int .i64 0, .int .i64 0, .int .i64 0, .int .i64 0, .int .i64 0, .int .i64 0, .int .i64 0, .int .i64 0, .int .i64 0, .int .i64 0, .int .i64 0, .int .i64 0, .int .i64 0, .int .i64 0, .int .i64 0, .int .i64 0, .int .i64 0, .int .i64 0, .int .i64 0, .int .i64 0, .int .i64 0, .int .i64 0, .int .i64 0, .int .i64 0, .int .i64 0, .int .i64 0, .int .i64 0, .int .i64 0, .int .i64 0, .int .i64 0, .int .i64 0, .int .i64 0, .int .i64 0, .int .i64 0, .int .i64 0, .int .i64 0, .int .i64 0, .int .i64 0, .int .i64 0, .int .i64 0, .int .i64 0, .int .i64 0, .int .i64 0, .int .i64 0, .int .i64 0, .int .i64 0, .int .i64 0, .int .i64 0, .int .i64 0, .int .i64 0, .int .i64 0, .int .i64 0, .int .i64 0, .int .i64 0, .int .i64 0, .int .i64 0, .int .i64 0, .int .i64 0, .int .i64 0, .int .i64 0, .int .i64 0, .int .i64 0, .int .i64 0, .int .i64 0, .int .i64 0, .int .i64 0, .int .i64 0, .int .i64 0, .int .i64 0, .int .i64 0, .int .i64 0, .int .i64 0, .int .i64 0, .int .i64 0, .int .i64 0, .int .i64 0, .int .i64 0, .int .i64 0, .int .i64 0, .int .i64 0, .int .i64 0, .int .i64 0, .int .i64 0, .int .i64 0, .int .i64 0, .int .i64 0, .int .i64 0, .int .i64 0, .int .i64 0, .int .i64 0, .int .i64 0, .int .i64 0, .int .i64 0, .int .i64 0, .int .i64 0, .int .i64 0, .int .i64 0, .int .i64 0, .int .i64 0, .int .i64 0, .int .i64 0, .int .i64 0, .int .i64 0, .int .i64 0, .int .i64 0, .int .i64 0, .int .i64 0, .int .i64 0, .int .i64 0, .int .i64 0, .int .i64 0, .int .i64 0, .int .i64 0, .int .i64 0, .int .i64 0, .int .i64 0, .int .i64 0, .int .i64 0, .int .i64 0, .int .i64 0, .int .i64 0, .int .i64 0, .int .i64 0, .int .i64 0, .int .i64 0, .int .i64 0, .int .i64 0, .int .i64 0, .int .i64 0, .int .i64 0, .int .i64 0, .int .i64 0, .int .i64 0, .int .i64 0, .int .i64 0, .int .i64 0, .int .i64 0, .int .i64 0, .int .i64 0, .int .i64 0, .int .i64 0, .int .i64 0, .int .i64 0, .int .i64 0, .int .i64 0, .int .i64 0, .int .i64 0, .int .i64 0, .int .i64 0, .int .i64 0, .int .i64 0, .int .i64 0, .int .i64 0, .int .i64 0, .int .i64 0, .int .i64 0, .int .i64 0, .int .i64 0, .int .i64 0, .int .i64 0, .int .i64 0, .int .i64 0, .int .i64 0, .int .i64 0, .int .i64 0, .int .i64 0, .int .i64 0, .int .i64 0, .int .i64 0, .int .i64 0, .int .i64 0, .int .i64 0, .int .i64 0, .int .i64 0, .int .i64 0, .int .i64 0, .int .i64 0, .int .i64 0, .int .i64 0, .int .i64 0, .int .i64 0] := by kernel_rfl
@[go_sem] theorem tzo172 : zeroOk Go.Proofs.Tryz.prog 172 = true := by kernel_rfl
@[go_sem] theorem tby172 : bytesT Go.Proofs.Tryz.prog 172 = 1536 := by kernel_rfl
@[go_sem] theorem tpl172 : placesOk Go.Proofs.Tryz.prog 172 = true := by kernel_rfl
@[go_sem] theorem tar172 : arrT Go.Proofs.Tryz.prog 172 = some (6, 171) := by kernel_rfl
@[go_sem] theorem tag172 : aggT Go.Proofs.Tryz.prog 172 = true := by kernel_rfl
@[go_sem] theorem tsz180 : szT Go.Proofs.Tryz.prog 180 = 2 := by kernel_rfl
attribute [go_sem] Go.Proofs.Tryz.underlying180
@[go_sem] theorem tze180 : zeroA Go.Proofs.Tryz.prog 180 = some [.int .i64 0, .slice .cap0 1 []] := by kernel_rfl
@[go_sem] theorem tzo180 : zeroOk Go.Proofs.Tryz.prog 180 = true := by kernel_rfl
@[go_sem] theorem tby180 : bytesT Go.Proofs.Tryz.prog 180 = 32 := by kernel_rfl
@[go_sem] theorem tpl180 : placesOk Go.Proofs.Tryz.prog 180 = true := by kernel_rfl
@[go_sem] theorem tfi180_0 : fieldT Go.Proofs.Tryz.prog 180 0 = some (0, 1, 3) := by kernel_rfl
@[go_sem] theorem tfi180_1 : fieldT Go.Proofs.Tryz.prog 180 1 = some (1, 1, 38) := by kernel_rfl
@[go_sem] theorem tar180 : arrT Go.Proofs.Tryz.prog 180 = none := by kernel_rfl
@[go_sem] theorem tag180 : aggT Go.Proofs.Tryz.prog 180 = true := by kernel_rfl
@[go_sem] theorem tsz181 : szT Go.Proofs.Tryz.prog 181 = 1 := by kernel_rfl
attribute [go_sem] Go.Proofs.Tryz.underlying181
@[go_sem] theorem tze181 : zeroA Go.Proofs.Tryz.prog 181 = some [.nilp] := by kernel_rfl
@[go_sem] theorem tzo181 : zeroOk Go.Proofs.Tryz.prog 181 = true := by kernel_rfl
@[go_sem] theorem tby181 : bytesT Go.Proofs.Tryz.prog 181 = 8 := by kernel_rfl
@[go_sem] theorem tar181 : arrT Go.Proofs.Tryz.prog 181 = none := by kernel_rfl
@[go_sem] theorem tag181 : aggT Go.Proofs.Tryz.prog 181 = false := by kernel_rfl
@[go_sem] theorem tsz194 : szT Go.Proofs.Tryz.prog 194 = 1 := by kernel_rfl
attribute [go_sem] Go.Proofs.Tryz.underlying194
@[go_sem] theorem tze194 : zeroA Go.Proofs.Tryz.prog 194 = some [.nilp] := by kernel_rfl
@[go_sem] theorem tzo194 : zeroOk Go.Proofs.Tryz.prog 194 = true := by kernel_rfl
@[go_sem] theorem tby194 : bytesT Go.Proofs.Tryz.prog 194 = 8 := by kernel_rfl
@[go_sem] theorem tar194 : arrT Go.Proofs.Tryz.prog 194 = none := by kernel_rfl
@[go_sem] theorem tag194 : aggT Go.Proofs.Tryz.prog 194 = false := by kernel_rfl
@[go_sem] theorem tsz196 : szT Go.Proofs.Tryz.prog 196 = 3 := by kernel_rfl
attribute [go_sem] Go.Proofs.Tryz.underlying196
@[go_sem] theorem tze196 : zeroA Go.Proofs.Tryz.prog 196 = some [.slice .cap0 1 [], .int .i64 0, .bool false] := by kernel_rfl
@[go_sem] theorem tzo196 : zeroOk Go.Proofs.Tryz.prog 196 = true := by kernel_rfl
@[go_sem] theorem tby196 : bytesT Go.Proofs.Tryz.prog 196 = 40 := by kernel_rfl
@[go_sem] theorem tpl196 : placesOk Go.Proofs.Tryz.prog 196 = true := by kernel_rfl
@[go_sem] theorem tfi196_0 : fieldT Go.Proofs.Tryz.prog 196 0 = some (0, 1, 38) := by kernel_rfl
@[go_sem] theorem tfi196_1 : fieldT Go.Proofs.Tryz.prog 196 1 = some (1, 1, 3) := by kernel_rfl
@[go_sem] theorem tfi196_2 : fieldT Go.Proofs.Tryz.prog 196 2 = some (2, 1, 4) := by kernel_rfl
@[go_sem] theorem tar196 : arrT Go.Proofs.Tryz.prog 196 = none := by kernel_rfl
@[go_sem] theorem tag196 : aggT Go.Proofs.Tryz.prog 196 = true := by kernel_rfl
@[go_sem] theorem tsz202 : szT Go.Proofs.Tryz.prog 202 = 1 := by kernel_rfl
attribute [go_sem] Go.Proofs.Tryz.underlying202
@[go_sem] theorem tze202 : zeroA Go.Proofs.Tryz.prog 202 = some [.nilp] := by kernel_rfl
@[go_sem] theorem tzo202 : zeroOk Go.Proofs.Tryz.prog 202 = true := by kernel_rfl
@[go_sem] theorem tby202 : bytesT Go.Proofs.Tryz.prog 202 = 8 := by kernel_rfl
@[go_sem] theorem tar202 : arrT Go.Proofs.Tryz.prog 202 = none := by kernel_rfl
@[go_sem] theorem tag202 : aggT Go.Proofs.Tryz.prog 202 = false := by kernel_rfl
@[go_sem] theorem tsz211 : szT Go.Proofs.Tryz.prog 211 = 1 := by kernel_rfl
attribute [go_sem] Go.Proofs.Tryz.underlying211
@[go_sem] theorem tze211 : zeroA Go.Proofs.Tryz.prog 211 = some [.int .u16 0] := by kernel_rfl
@[go_sem] theorem tzo211 : zeroOk Go.Proofs.Tryz.prog 211 = true := by kernel_rfl
@[go_sem] theorem tby211 : bytesT Go.Proofs.Tryz.prog 211 = 2 := by kernel_rfl
@[go_sem] theorem tar211 : arrT Go.Proofs.Tryz.prog 211 = none := by kernel_rfl
@[go_sem] theorem tin211 : intT Go.Proofs.Tryz.prog 211 = some .u16 := by kernel_rfl
@[go_sem] theorem tag211 : aggT Go.Proofs.Tryz.prog 211 = false := by kernel_rfl
@[go_sem] theorem tsz220 : szT Go.Proofs.Tryz.prog 220 = 2 := by kernel_rfl
attribute [go_sem] Go.Proofs.Tryz.underlying220
@[go_sem] theorem tze220 : zeroA Go.Proofs.Tryz.prog 220 = some [.int .u32 0, .int .i64 0] := by kernel_rfl
@[go_sem] theorem tzo220 : zeroOk Go.Proofs.Tryz.prog 220 = true := by kernel_rfl
@[go_sem] theorem tby220 : bytesT Go.Proofs.Tryz.prog 220 = 16 := by kernel_rfl
@[go_sem] theorem tpl220 : placesOk Go.Proofs.Tryz.prog 220 = true := by kernel_rfl
@[go_sem] theorem tfl220 : flatEq Go.Proofs.Tryz.prog 220 = true := by kernel_rfl
@[go_sem] theorem tfi220_0 : fieldT Go.Proofs.Tryz.prog 220 0 = some (0, 1, 22) := by kernel_rfl
@[go_sem] theorem tfi220_1 : fieldT Go.Proofs.Tryz.prog 220 1 = some (1, 1, 3) := by kernel_rfl
@[go_sem] theorem tar220 : arrT Go.Proofs.Tryz.prog 220 = none := by kernel_rfl
@[go_sem] theorem tag220 : aggT Go.Proofs.Tryz.prog 220 = true := by kernel_rfl
@[go_sem] theorem tsz224 : szT Go.Proofs.Tryz.prog 224 = 3 := by kernel_rfl
attribute [go_sem] Go.Proofs.Tryz.underlying224
@[go_sem] theorem tze224 : zeroA Go.Proofs.Tryz.prog 224 = some [.int .i64 0, .int .i64 0, .slice .cap0 1 []] := by kernel_rfl
@[go_sem] theorem tzo224 : zeroOk Go.Proofs.Tryz.prog 224 = true := by kernel_rfl
@[go_sem] theorem tby224 : bytesT Go.Proofs.Tryz.prog 224 = 40 := by kernel_rfl
@[go_sem] theorem tpl224 : placesOk Go.Proofs.Tryz.prog 224 = true := by kernel_rfl
@[go_sem] theorem tfi224_0 : fieldT Go.Proofs.Tryz.prog 224 0 = some (0, 1, 3) := by kernel_rfl
@[go_sem] theorem tfi224_1 : fieldT Go.Proofs.Tryz.prog 224 1 = some (1, 1, 3) := by kernel_rfl
@[go_sem] theorem tfi224_2 : fieldT Go.Proofs.Tryz.prog 224 2 = some (2, 1, 38) := by kernel_rfl
@[go_sem] theorem tar224 : arrT Go.Proofs.Tryz.prog 224 = none := by kernel_rfl
@[go_sem] theorem tag224 : aggT Go.Proofs.Tryz.prog 224 = true := by kernel_rfl
@[go_sem] theorem tsz226 : szT Go.Proofs.Tryz.prog 226 = 2 := by kernel_rfl
attribute [go_sem] Go.Proofs.Tryz.underlying226
@[go_sem] theorem tze226 : zeroA Go.Proofs.Tryz.prog 226 = some [.slice .cap0 1 [], .bool false] := by kernel_rfl
@[go_sem] theorem tzo226 : zeroOk Go.Proofs.Tryz.prog 226 = true := by kernel_rfl
@[go_sem] theorem tby226 : bytesT Go.Proofs.Tryz.prog 226 = 32 := by kernel_rfl
@[go_sem] theorem tpl226 : placesOk Go.Proofs.Tryz.prog 226 = true := by kernel_rfl
@[go_sem] theorem tfi226_0 : fieldT Go.Proofs.Tryz.prog 226 0 = some (0, 1, 38) := by kernel_rfl
@[go_sem] theorem tfi226_1 : fieldT Go.Proofs.Tryz.prog 226 1 = some (1, 1, 4) := by kernel_rfl
@[go_sem] theorem tar226 : arrT Go.Proofs.Tryz.prog 226 = none := by kernel_rfl
@[go_sem] theorem tag226 : aggT Go.Proofs.Tryz.prog 226 = true := by kernel_rfl
@[go_sem] theorem tsz229 : szT Go.Proofs.Tryz.prog 229 = 1 := by kernel_rfl
attribute [go_sem] Go.Proofs.Tryz.underlying229
@[go_sem] theorem tzo229 : zeroOk Go.Proofs.Tryz.prog 229 = true := by kernel_rfl
@[go_sem] theorem tby229 : bytesT Go.Proofs.Tryz.prog 229 = 8 := by kernel_rfl
@[go_sem] theorem tar229 : arrT Go.Proofs.Tryz.prog 229 = none := by kernel_rfl
@[go_sem] theorem tag229 : aggT Go.Proofs.Tryz.prog 229 = false := by kernel_rfl
@[go_sem] theorem tsz233 : szT Go.Proofs.Tryz.prog 233 = 5 := by kernel_rfl
attribute [go_sem] Go.Proofs.Tryz.underlying233
@[go_sem] theorem tze233 : zeroA Go.Proofs.Tryz.prog 233 = some [.int .i64 0, .int .i64 0, .int .i64 0, .int .i64 0, .int .i64 0] := by kernel_rfl
@[go_sem] theorem tzo233 : zeroOk Go.Proofs.Tryz.prog 233 = true := by kernel_rfl
@[go_sem] theorem tby233 : bytesT Go.Proofs.Tryz.prog 233 = 40 := by kernel_rfl
@[go_sem] theorem tpl233 : placesOk Go.Proofs.Tryz.prog 233 = true := by kernel_rfl
@[go_sem] theorem tar233 : arrT Go.Proofs.Tryz.prog 233 = some (5, 3) := by kernel_rfl
@[go_sem] theorem tag233 : aggT Go.Proofs.Tryz.prog 233 = true := by kernel_rfl
@[go_sem] theorem tsz245 : szT Go.Proofs.Tryz.prog 245 = 2 := by kernel_rfl
attribute [go_sem] Go.Proofs.Tryz.underlying245
@[go_sem] theorem tze245 : zeroA Go.Proofs.Tryz.prog 245 = some [.int .i64 0, .slice .cap0 1 []] := by kernel_rfl
@[go_sem] theorem tzo245 : zeroOk Go.Proofs.Tryz.prog 245 = true := by kernel_rfl
@[go_sem] theorem tby245 : bytesT Go.Proofs.Tryz.prog 245 = 32 := by kernel_rfl
@[go_sem] theorem tpl245 : placesOk Go.Proofs.Tryz.prog 245 = true := by kernel_rfl
@[go_sem] theorem tfi245_0 : fieldT Go.Proofs.Tryz.prog 245 0 = some (0, 1, 3) := by kernel_rfl
@[go_sem] theorem tfi245_1 : fieldT Go.Proofs.Tryz.prog 245 1 = some (1, 1, 84) := by kernel_rfl
@[go_sem] theorem tar245 : arrT Go.Proofs.Tryz.prog 245 = none := by kernel_rfl
@[go_sem] theorem tag245 : aggT Go.Proofs.Tryz.prog 245 = true := by kernel_rfl
@[go_sem] theorem tsz246 : szT Go.Proofs.Tryz.prog 246 = 1 := by kernel_rfl
attribute [go_sem] Go.Proofs.Tryz.underlying246
@[go_sem] theorem tze246 : zeroA Go.Proofs.Tryz.prog 246 = some [.int .u64 0] := by kernel_rfl
@[go_sem] theorem tzo246 : zeroOk Go.Proofs.Tryz.prog 246 = true := by kernel_rfl
@[go_sem] theorem tby246 : bytesT Go.Proofs.Tryz.prog 246 = 8 := by kernel_rfl
@[go_sem] theorem tar246 : arrT Go.Proofs.Tryz.prog 246 = none := by kernel_rfl
@[go_sem] theorem tin246 : intT Go.Proofs.Tryz.prog 246 = some .u64 := by kernel_rfl
@[go_sem] theorem tag246 : aggT Go.Proofs.Tryz.prog 246 = false := by kernel_rfl
@[go_sem] theorem tsz249 : szT Go.Proofs.Tryz.prog 249 = 1 := by kernel_rfl
attribute [go_sem] Go.Proofs.Tryz.underlying249
@[go_sem] theorem tze249 : zeroA Go.Proofs.Tryz.prog 249 = some [.nilp] := by kernel_rfl
@[go_sem] theorem tzo249 : zeroOk Go.Proofs.Tryz.prog 249 = true := by kernel_rfl
@[go_sem] theorem tby249 : bytesT Go.Proofs.Tryz.prog 249 = 8 := by kernel_rfl
@[go_sem] theorem tar249 : arrT Go.Proofs.Tryz.prog 249 = none := by kernel_rfl
@[go_sem] theorem tag249 : aggT Go.Proofs.Tryz.prog 249 = false := by kernel_rfl
@[go_sem] theorem tsz251 : szT Go.Proofs.Tryz.prog 251 = 17 := by kernel_rfl
attribute [go_sem] Go.Proofs.Tryz.underlying251
@[go_sem] theorem tze251 : zeroA Go.Proofs.Tryz.prog 251 = some [.int .i64 0, .slice .cap0 2 [], .int .u32 0, .int .i64 0, .int .i64 0, .bool false, .bool false, .int .u32 0, .int .u32 0, .slice .cap0 1 [], .slice .cap0 3 [], .slice .cap0 1 [], .slice .cap0 2 [], .bool false, .int .u32 0, .slice .cap0 1 [], .bool false] := by kernel_rfl
@[go_sem] theorem tzo251 : zeroOk Go.Proofs.Tryz.prog 251 = true := by kernel_rfl
@[go_sem] theorem tby251 : bytesT Go.Proofs.Tryz.prog 251 = 208 := by kernel_rfl
@[go_sem] theorem tpl251 : placesOk Go.Proofs.Tryz.prog 251 = true := by kernel_rfl
@[go_sem] theorem tfi251_0 : fieldT Go.Proofs.Tryz.prog 251 0 = some (0, 11, 87) := by kernel_rfl
@[go_sem] theorem tfi251_1 : fieldT Go.Proofs.Tryz.prog 251 1 = some (11, 1, 79) := by kernel_rfl
@[go_sem] theorem tfi251_2 : fieldT Go.Proofs.Tryz.prog 251 2 = some (12, 1, 83) := by kernel_rfl
@[go_sem] theorem tfi251_3 : fieldT Go.Proofs.Tryz.prog 251 3 = some (13, 1, 4) := by kernel_rfl
@[go_sem] theorem tfi251_4 : fieldT Go.Proofs.Tryz.prog 251 4 = some (14, 1, 22) := by kernel_rfl
@[go_sem] theorem tfi251_5 : fieldT Go.Proofs.Tryz.prog 251 5 = some (15, 1, 38) := by kernel_rfl
@[go_sem] theorem tfi251_6 : fieldT Go.Proofs.Tryz.prog 251 6 = some (16, 1, 4) := by kernel_rfl
@[go_sem] theorem tar251 : arrT Go.Proofs.Tryz.prog 251 = none := by kernel_rfl
@[go_sem] theorem tag251 : aggT Go.Proofs.Tryz.prog 251 = true := by kernel_rfl
@[go_sem] theorem tsz254 : szT Go.Proofs.Tryz.prog 254 = 4 := by kernel_rfl
attribute [go_sem] Go.Proofs.Tryz.underlying254
@[go_sem] theorem tze254 : zeroA Go.Proofs.Tryz.prog 254 = some [.int .i64 0, .int .i64 0, .slice .cap0 1 [], .slice .cap0 1 []] := by kernel_rfl
@[go_sem] theorem tzo254 : zeroOk Go.Proofs.Tryz.prog 254 = true := by kernel_rfl
@[go_sem] theorem tby254 : bytesT Go.Proofs.Tryz.prog 254 = 64 := by kernel_rfl
@[go_sem] theorem tpl254 : placesOk Go.Proofs.Tryz.prog 254 = true := by kernel_rfl
@[go_sem] theorem tfi254_0 : fieldT Go.Proofs.Tryz.prog 254 0 = some (0, 1, 3) := by kernel_rfl
@[go_sem] theorem tfi254_1 : fieldT Go.Proofs.Tryz.prog 254 1 = some (1, 1, 3) := by kernel_rfl
@[go_sem] theorem tfi254_2 : fieldT Go.Proofs.Tryz.prog 254 2 = some (2, 1, 38) := by kernel_rfl
@[go_sem] theorem tfi254_3 : fieldT Go.Proofs.Tryz.prog 254 3 = some (3, 1, 38) := by kernel_rfl
@[go_sem] theorem tar254 : arrT Go.Proofs.Tryz.prog 254 = none := by kernel_rfl
@[go_sem] theorem tag254 : aggT Go.Proofs.Tryz.prog 254 = true := by kernel_rfl
@[go_sem] theorem tsz263 : szT Go.Proofs.Tryz.prog 263 = 3 := by kernel_rfl
attribute [go_sem] Go.Proofs.Tryz.underlying263
@[go_sem] theorem tze263 : zeroA Go.Proofs.Tryz.prog 263 = some [.int .i64 0, .int .i64 0, .int .i64 0] := by kernel_rfl
@[go_sem] theorem tzo263 : zeroOk Go.Proofs.Tryz.prog 263 = true := by kernel_rfl
@[go_sem] theorem tby263 : bytesT Go.Proofs.Tryz.prog 263 = 24 := by kernel_rfl
@[go_sem] theorem tpl263 : placesOk Go.Proofs.Tryz.prog 263 = true := by kernel_rfl
@[go_sem] theorem tfl263 : flatEq Go.Proofs.Tryz.prog 263 = true := by kernel_rfl
@[go_sem] theorem tfi263_0 : fieldT Go.Proofs.Tryz.prog 263 0 = some (0, 1, 3) := by kernel_rfl
@[go_sem] theorem tfi263_1 : fieldT Go.Proofs.Tryz.prog 263 1 = some (1, 1, 3) := by kernel_rfl
@[go_sem] theorem tfi263_2 : fieldT Go.Proofs.Tryz.prog 263 2 = some (2, 1, 3) := by kernel_rfl
@[go_sem] theorem tar263 : arrT Go.Proofs.Tryz.prog 263 = none := by kernel_rfl
@[go_sem] theorem tag263 : aggT Go.Proofs.Tryz.prog 263 = true := by kernel_rfl
@[go_sem] theorem tsz264 : szT Go.Proofs.Tryz.prog 264 = 57 := by kernel_rfl
attribute [go_sem] Go.Proofs.Tryz.underlying264
@[go_sem] theorem tze264 : zeroA Go.Proofs.Tryz.prog 264 = some [.int .i64 0, .int .i64 0, .int .i64 0, .int .i64 0, .int .i64 0, .int .i64 0, .int .i64 0, .int .i64 0, .int .i64 0, .int .i64 0, .int .i64 0, .int .i64 0, .int .i64 0, .int .i64 0, .int .i64 0, .int .i64 0, .int .i64 0, .int .i64 0, .int .i64 0, .int .i64 0, .int .i64 0, .int .i64 0, .int .i64 0, .int .i64 0, .int .i64 0, .int .i64 0, .int .i64 0, .int .i64 0, .int .i64 0, .int .i64 0, .int .i64 0, .int .i64 0, .int .i64 0, .int .i64 0, .int .i64 0, .int .i64 0, .int .i64 0, .int .i64 0, .int .i64 0, .int .i64 0, .int .i64 0, .int .i64 0, .int .i64 0, .int .i64 0, .int .i64 0, .int .i64 0, .int .i64 0, .int .i64 0, .int .i64 0, .int .i64 0, .int .i64 0, .int .i64 0, .int .i64 0, .int .i64 0, .int .i64 0, .int .i64 0, .int .i64 0] := by kernel_rfl
@[go_sem] theorem tzo264 : zeroOk Go.Proofs.Tryz.prog 264 = true := by kernel_rfl
@[go_sem] theorem tby264 : bytesT Go.Proofs.Tryz.prog 264 = 456 := by kernel_rfl
@[go_sem] theorem tpl264 : placesOk Go.Proofs.Tryz.prog 264 = true := by kernel_rfl
@[go_sem] theorem tar264 : arrT Go.Proofs.Tryz.prog 264 = some (19, 263) := by kernel_rfl
@[go_sem] theorem tag264 : aggT Go.Proofs.Tryz.prog 264 = true := by kernel_rfl
@[go_sem] theorem tsz266 : szT Go.Proofs.Tryz.prog 266 = 1 := by kernel_rfl
attribute [go_sem] Go.Proofs.Tryz.underlying266
@[go_sem] theorem tzo266 : zeroOk Go.Proofs.Tryz.prog 266 = true := by kernel_rfl
@[go_sem] theorem tby266 : bytesT Go.Proofs.Tryz.prog 266 = 8 := by kernel_rfl
@[go_sem] theorem tar266 : arrT Go.Proofs.Tryz.prog 266 = none := by kernel_rfl
@[go_sem] theorem tag266 : aggT Go.Proofs.Tryz.prog 266 = false := by kernel_rfl
@[go_sem] theorem tsz278 : szT Go.Proofs.Tryz.prog 278 = 1 := by kernel_rfl
attribute [go_sem] Go.Proofs.Tryz.underlying278
@[go_sem] theorem tzo278 : zeroOk Go.Proofs.Tryz.prog 278 = true := by kernel_rfl
@[go_sem] theorem tby278 : bytesT Go.Proofs.Tryz.prog 278 = 8 := by kernel_rfl
@[go_sem] theorem tar278 : arrT Go.Proofs.Tryz.prog 278 = none := by kernel_rfl
@[go_sem] theorem tag278 : aggT Go.Proofs.Tryz.prog 278 = false := by kernel_rfl
@[go_sem] theorem tsz294 : szT Go.Proofs.Tryz.prog 294 = 1 := by kernel_rfl
attribute [go_sem] Go.Proofs.Tryz.underlying294
@[go_sem] theorem tel294 : elemT Go.Proofs.Tryz.prog 294 = some 301 := by kernel_rfl
@[go_sem] theorem tze294 : zeroA Go.Proofs.Tryz.prog 294 = some [.slice .cap0 7 []] := by kernel_rfl
@[go_sem] theorem tzo294 : zeroOk Go.Proofs.Tryz.prog 294 = true := by kernel_rfl
@[go_sem] theorem tby294 : bytesT Go.Proofs.Tryz.prog 294 = 24 := by kernel_rfl
@[go_sem] theorem tar294 : arrT Go.Proofs.Tryz.prog 294 = none := by kernel_rfl
@[go_sem] theorem tag294 : aggT Go.Proofs.Tryz.prog 294 = false := by kernel_rfl
@[go_sem] theorem tsz295 : szT Go.Proofs.Tryz.prog 295 = 1 := by kernel_rfl
attribute [go_sem] Go.Proofs.Tryz.underlying295
@[go_sem] theorem tel295 : elemT Go.Proofs.Tryz.prog 295 = some 303 := by kernel_rfl
@[go_sem] theorem tze295 : zeroA Go.Proofs.Tryz.prog 295 = some [.slice .cap0 3 []] := by kernel_rfl
@[go_sem] theorem tzo295 : zeroOk Go.Proofs.Tryz.prog 295 = true := by kernel_rfl
@[go_sem] theorem tby295 : bytesT Go.Proofs.Tryz.prog 295 = 24 := by kernel_rfl
@[go_sem] theorem tar295 : arrT Go.Proofs.Tryz.prog 295 = none := by kernel_rfl
@[go_sem] theorem tag295 : aggT Go.Proofs.Tryz.prog 295 = false := by kernel_rfl
@[go_sem] theorem tsz297 : szT Go.Proofs.Tryz.prog 297 = 3 := by kernel_rfl
attribute [go_sem] Go.Proofs.Tryz.underlying297
@[go_sem] theorem tze297 : zeroA Go.Proofs.Tryz.prog 297 = some [.slice .cap0 7 [], .slice .cap0 3 [], .int .i64 0] := by kernel_rfl
@[go_sem] theorem tzo297 : zeroOk Go.Proofs.Tryz.prog 297 = true := by kernel_rfl
@[go_sem] theorem tby297 : bytesT Go.Proofs.Tryz.prog 297 = 56 := by kernel_rfl
@[go_sem] theorem tpl297 : placesOk Go.Proofs.Tryz.prog 297 = true := by kernel_rfl
@[go_sem] theorem tfi297_0 : fieldT Go.Proofs.Tryz.prog 297 0 = some (0, 1, 294) := by kernel_rfl
@[go_sem] theorem tfi297_1 : fieldT Go.Proofs.Tryz.prog 297 1 = some (1, 1, 295) := by kernel_rfl
@[go_sem] theorem tfi297_2 : fieldT Go.Proofs.Tryz.prog 297 2 = some (2, 1, 3) := by kernel_rfl
@[go_sem] theorem tar297 : arrT Go.Proofs.Tryz.prog 297 = none := by kernel_rfl
@[go_sem] theorem tag297 : aggT Go.Proofs.Tryz.prog 297 = true := by kernel_rfl
@[go_sem] theorem tsz299 : szT Go.Proofs.Tryz.prog 299 = 1 := by kernel_rfl
attribute [go_sem] Go.Proofs.Tryz.underlying299
@[go_sem] theorem tel299 : elemT Go.Proofs.Tryz.prog 299 = some 305 := by kernel_rfl
@[go_sem] theorem tze299 : zeroA Go.Proofs.Tryz.prog 299 = some [.slice .cap0 4 []] := by kernel_rfl
@[go_sem] theorem tzo299 : zeroOk Go.Proofs.Tryz.prog 299 = true := by kernel_rfl
@[go_sem] theorem tby299 : bytesT Go.Proofs.Tryz.prog 299 = 24 := by kernel_rfl
@[go_sem] theorem tar299 : arrT Go.Proofs.Tryz.prog 299 = none := by kernel_rfl
@[go_sem] theorem tag299 : aggT Go.Proofs.Tryz.prog 299 = false := by kernel_rfl
@[go_sem] theorem tsz301 : szT Go.Proofs.Tryz.prog 301 = 7 := by kernel_rfl
attribute [go_sem] Go.Proofs.Tryz.underlying301
@[go_sem] theorem tze301 : zeroA Go.Proofs.Tryz.prog 301 = some [.int .i64 0, .bool false, .int .i64 0, .int .u32 0, .str [], .slice .cap0 4 [], .slice .cap0 1 []] := by kernel_rfl
@[go_sem] theorem tzo301 : zeroOk Go.Proofs.Tryz.prog 301 = true := by kernel_rfl
@[go_sem] theorem tby301 : bytesT Go.Proofs.Tryz.prog 301 = 96 := by kernel_rfl
@[go_sem] theorem tpl301 : placesOk Go.Proofs.Tryz.prog 301 = true := by kernel_rfl
@[go_sem] theorem tfi301_0 : fieldT Go.Proofs.Tryz.prog 301 0 = some (0, 1, 3) := by kernel_rfl
@[go_sem] theorem tfi301_1 : fieldT Go.Proofs.Tryz.prog 301 1 = some (1, 1, 4) := by kernel_rfl
@[go_sem] theorem tfi301_2 : fieldT Go.Proofs.Tryz.prog 301 2 = some (2, 1, 3) := by kernel_rfl
@[go_sem] theorem tfi301_3 : fieldT Go.Proofs.Tryz.prog 301 3 = some (3, 1, 22) := by kernel_rfl
@[go_sem] theorem tfi301_4 : fieldT Go.Proofs.Tryz.prog 301 4 = some (4, 1, 9) := by kernel_rfl
@[go_sem] theorem tfi301_5 : fieldT Go.Proofs.Tryz.prog 301 5 = some (5, 1, 299) := by kernel_rfl
@[go_sem] theorem tfi301_6 : fieldT Go.Proofs.Tryz.prog 301 6 = some (6, 1, 84) := by kernel_rfl
@[go_sem] theorem tar301 : arrT Go.Proofs.Tryz.prog 301 = none := by kernel_rfl
@[go_sem] theorem tag301 : aggT Go.Proofs.Tryz.prog 301 = true := by kernel_rfl
@[go_sem] theorem tsz303 : szT Go.Proofs.Tryz.prog 303 = 3 := by kernel_rfl
attribute [go_sem] Go.Proofs.Tryz.underlying303
@[go_sem] theorem tze303 : zeroA Go.Proofs.Tryz.prog 303 = some [.int .i64 0, .int .i64 0, .int .u32 0] := by kernel_rfl
@[go_sem] theorem tzo303 : zeroOk Go.Proofs.Tryz.prog 303 = true := by kernel_rfl
@[go_sem] theorem tby303 : bytesT Go.Proofs.Tryz.prog 303 = 24 := by kernel_rfl
@[go_sem] theorem tpl303 : placesOk Go.Proofs.Tryz.prog 303 = true := by kernel_rfl
@[go_sem] theorem tfl303 : flatEq Go.Proofs.Tryz.prog 303 = true := by kernel_rfl
@[go_sem] theorem tfi303_0 : fieldT Go.Proofs.Tryz.prog 303 0 = some (0, 1, 3) := by kernel_rfl
@[go_sem] theorem tfi303_1 : fieldT Go.Proofs.Tryz.prog 303 1 = some (1, 1, 3) := by kernel_rfl
@[go_sem] theorem tfi303_2 : fieldT Go.Proofs.Tryz.prog 303 2 = some (2, 1, 22) := by kernel_rfl
@[go_sem] theorem tar303 : arrT Go.Proofs.Tryz.prog 303 = none := by kernel_rfl
@[go_sem] theorem tag303 : aggT Go.Proofs.Tryz.prog 303 = true := by kernel_rfl
@[go_sem] theorem tsz305 : szT Go.Proofs.Tryz.prog 305 = 4 := by kernel_rfl
attribute [go_sem] Go.Proofs.Tryz.underlying305
@[go_sem] theorem tze305 : zeroA Go.Proofs.Tryz.prog 305 = some [.int .u32 0, .int .i64 0, .int .i64 0, .int .i64 0] := by kernel_rfl
@[go_sem] theorem tzo305 : zeroOk Go.Proofs.Tryz.prog 305 = true := by kernel_rfl
@[go_sem] theorem tby305 : bytesT Go.Proofs.Tryz.prog 305 = 32 := by kernel_rfl
@[go_sem] theorem tpl305 : placesOk Go.Proofs.Tryz.prog 305 = true := by kernel_rfl
@[go_sem] theorem tfi305_0 : fieldT Go.Proofs.Tryz.prog 305 0 = some (0, 2, 220) := by kernel_rfl
@[go_sem] theorem tfi305_1 : fieldT Go.Proofs.Tryz.prog 305 1 = some (2, 1, 3) := by kernel_rfl
@[go_sem] theorem tfi305_2 : fieldT Go.Proofs.Tryz.prog 305 2 = some (3, 1, 3) := by kernel_rfl
@[go_sem] theorem tar305 : arrT Go.Proofs.Tryz.prog 305 = none := by kernel_rfl
@[go_sem] theorem tag305 : aggT Go.Proofs.Tryz.prog 305 = true := by kernel_rfl

end Go.Abs
