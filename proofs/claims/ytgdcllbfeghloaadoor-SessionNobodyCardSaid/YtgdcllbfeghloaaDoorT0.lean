/-
  THE SEAT'S TYPES: sizes, fields, elements, zero values, as the program's table tells them.
-/
import Derived.Test.YtgdcllbfeghloaaDoorAbs24
import Derived.Test.YtgdcllbfeghloaaDoorProg
set_option linter.all false
namespace Go.Abs
open Go Go.Proofs

@[go_sem] theorem tsz3 : szT Go.Proofs.Tryd.prog 3 = 1 := by kernel_rfl
attribute [go_sem] Go.Proofs.Tryd.underlying3
@[go_sem] theorem tze3 : zeroA Go.Proofs.Tryd.prog 3 = some [.int .i64 0] := by kernel_rfl
@[go_sem] theorem tzo3 : zeroOk Go.Proofs.Tryd.prog 3 = true := by kernel_rfl
@[go_sem] theorem tby3 : bytesT Go.Proofs.Tryd.prog 3 = 8 := by kernel_rfl
@[go_sem] theorem tar3 : arrT Go.Proofs.Tryd.prog 3 = none := by kernel_rfl
@[go_sem] theorem tin3 : intT Go.Proofs.Tryd.prog 3 = some .i64 := by kernel_rfl
@[go_sem] theorem tag3 : aggT Go.Proofs.Tryd.prog 3 = false := by kernel_rfl
@[go_sem] theorem tsz4 : szT Go.Proofs.Tryd.prog 4 = 1 := by kernel_rfl
attribute [go_sem] Go.Proofs.Tryd.underlying4
@[go_sem] theorem tze4 : zeroA Go.Proofs.Tryd.prog 4 = some [.bool false] := by kernel_rfl
@[go_sem] theorem tzo4 : zeroOk Go.Proofs.Tryd.prog 4 = true := by kernel_rfl
@[go_sem] theorem tby4 : bytesT Go.Proofs.Tryd.prog 4 = 1 := by kernel_rfl
@[go_sem] theorem tar4 : arrT Go.Proofs.Tryd.prog 4 = none := by kernel_rfl
@[go_sem] theorem tag4 : aggT Go.Proofs.Tryd.prog 4 = false := by kernel_rfl
@[go_sem] theorem tsz5 : szT Go.Proofs.Tryd.prog 5 = 1 := by kernel_rfl
attribute [go_sem] Go.Proofs.Tryd.underlying5
@[go_sem] theorem tze5 : zeroA Go.Proofs.Tryd.prog 5 = some [.int .u8 0] := by kernel_rfl
@[go_sem] theorem tzo5 : zeroOk Go.Proofs.Tryd.prog 5 = true := by kernel_rfl
@[go_sem] theorem tby5 : bytesT Go.Proofs.Tryd.prog 5 = 1 := by kernel_rfl
@[go_sem] theorem tar5 : arrT Go.Proofs.Tryd.prog 5 = none := by kernel_rfl
@[go_sem] theorem tin5 : intT Go.Proofs.Tryd.prog 5 = some .u8 := by kernel_rfl
@[go_sem] theorem tag5 : aggT Go.Proofs.Tryd.prog 5 = false := by kernel_rfl
@[go_sem] theorem tsz9 : szT Go.Proofs.Tryd.prog 9 = 1 := by kernel_rfl
attribute [go_sem] Go.Proofs.Tryd.underlying9
@[go_sem] theorem tze9 : zeroA Go.Proofs.Tryd.prog 9 = some [.str []] := by kernel_rfl
@[go_sem] theorem tzo9 : zeroOk Go.Proofs.Tryd.prog 9 = true := by kernel_rfl
@[go_sem] theorem tby9 : bytesT Go.Proofs.Tryd.prog 9 = 16 := by kernel_rfl
@[go_sem] theorem tar9 : arrT Go.Proofs.Tryd.prog 9 = none := by kernel_rfl
@[go_sem] theorem tag9 : aggT Go.Proofs.Tryd.prog 9 = false := by kernel_rfl
@[go_sem] theorem tsz22 : szT Go.Proofs.Tryd.prog 22 = 1 := by kernel_rfl
attribute [go_sem] Go.Proofs.Tryd.underlying22
@[go_sem] theorem tze22 : zeroA Go.Proofs.Tryd.prog 22 = some [.int .u32 0] := by kernel_rfl
@[go_sem] theorem tzo22 : zeroOk Go.Proofs.Tryd.prog 22 = true := by kernel_rfl
@[go_sem] theorem tby22 : bytesT Go.Proofs.Tryd.prog 22 = 4 := by kernel_rfl
@[go_sem] theorem tar22 : arrT Go.Proofs.Tryd.prog 22 = none := by kernel_rfl
@[go_sem] theorem tin22 : intT Go.Proofs.Tryd.prog 22 = some .u32 := by kernel_rfl
@[go_sem] theorem tag22 : aggT Go.Proofs.Tryd.prog 22 = false := by kernel_rfl
@[go_sem] theorem tsz24 : szT Go.Proofs.Tryd.prog 24 = 4 := by kernel_rfl
attribute [go_sem] Go.Proofs.Tryd.underlying24
@[go_sem] theorem tze24 : zeroA Go.Proofs.Tryd.prog 24 = some [.int .u32 0, .int .u32 0, .int .u32 0, .int .i64 0] := by kernel_rfl
@[go_sem] theorem tzo24 : zeroOk Go.Proofs.Tryd.prog 24 = true := by kernel_rfl
@[go_sem] theorem tby24 : bytesT Go.Proofs.Tryd.prog 24 = 24 := by kernel_rfl
@[go_sem] theorem tpl24 : placesOk Go.Proofs.Tryd.prog 24 = true := by kernel_rfl
@[go_sem] theorem tfl24 : flatEq Go.Proofs.Tryd.prog 24 = true := by kernel_rfl
@[go_sem] theorem tfi24_0 : fieldT Go.Proofs.Tryd.prog 24 0 = some (0, 1, 22) := by kernel_rfl
@[go_sem] theorem tfi24_1 : fieldT Go.Proofs.Tryd.prog 24 1 = some (1, 1, 22) := by kernel_rfl
@[go_sem] theorem tfi24_2 : fieldT Go.Proofs.Tryd.prog 24 2 = some (2, 1, 22) := by kernel_rfl
@[go_sem] theorem tfi24_3 : fieldT Go.Proofs.Tryd.prog 24 3 = some (3, 1, 3) := by kernel_rfl
@[go_sem] theorem tar24 : arrT Go.Proofs.Tryd.prog 24 = none := by kernel_rfl
@[go_sem] theorem tag24 : aggT Go.Proofs.Tryd.prog 24 = true := by kernel_rfl
@[go_sem] theorem tsz25 : szT Go.Proofs.Tryd.prog 25 = 1 := by kernel_rfl
attribute [go_sem] Go.Proofs.Tryd.underlying25
@[go_sem] theorem tel25 : elemT Go.Proofs.Tryd.prog 25 = some 195 := by kernel_rfl
@[go_sem] theorem tze25 : zeroA Go.Proofs.Tryd.prog 25 = some [.slice .cap0 3 []] := by kernel_rfl
@[go_sem] theorem tzo25 : zeroOk Go.Proofs.Tryd.prog 25 = true := by kernel_rfl
@[go_sem] theorem tby25 : bytesT Go.Proofs.Tryd.prog 25 = 24 := by kernel_rfl
@[go_sem] theorem tar25 : arrT Go.Proofs.Tryd.prog 25 = none := by kernel_rfl
@[go_sem] theorem tag25 : aggT Go.Proofs.Tryd.prog 25 = false := by kernel_rfl
@[go_sem] theorem tsz27 : szT Go.Proofs.Tryd.prog 27 = 5 := by kernel_rfl
attribute [go_sem] Go.Proofs.Tryd.underlying27
@[go_sem] theorem tze27 : zeroA Go.Proofs.Tryd.prog 27 = some [.int .u32 0, .int .u32 0, .int .i64 0, .slice .cap0 3 [], .slice .cap0 3 []] := by kernel_rfl
@[go_sem] theorem tzo27 : zeroOk Go.Proofs.Tryd.prog 27 = true := by kernel_rfl
@[go_sem] theorem tby27 : bytesT Go.Proofs.Tryd.prog 27 = 64 := by kernel_rfl
@[go_sem] theorem tpl27 : placesOk Go.Proofs.Tryd.prog 27 = true := by kernel_rfl
@[go_sem] theorem tfi27_0 : fieldT Go.Proofs.Tryd.prog 27 0 = some (0, 1, 22) := by kernel_rfl
@[go_sem] theorem tfi27_1 : fieldT Go.Proofs.Tryd.prog 27 1 = some (1, 1, 22) := by kernel_rfl
@[go_sem] theorem tfi27_2 : fieldT Go.Proofs.Tryd.prog 27 2 = some (2, 1, 3) := by kernel_rfl
@[go_sem] theorem tfi27_3 : fieldT Go.Proofs.Tryd.prog 27 3 = some (3, 1, 25) := by kernel_rfl
@[go_sem] theorem tfi27_4 : fieldT Go.Proofs.Tryd.prog 27 4 = some (4, 1, 25) := by kernel_rfl
@[go_sem] theorem tar27 : arrT Go.Proofs.Tryd.prog 27 = none := by kernel_rfl
@[go_sem] theorem tag27 : aggT Go.Proofs.Tryd.prog 27 = true := by kernel_rfl
@[go_sem] theorem tsz28 : szT Go.Proofs.Tryd.prog 28 = 1 := by kernel_rfl
attribute [go_sem] Go.Proofs.Tryd.underlying28
@[go_sem] theorem tze28 : zeroA Go.Proofs.Tryd.prog 28 = some [.nilp] := by kernel_rfl
@[go_sem] theorem tzo28 : zeroOk Go.Proofs.Tryd.prog 28 = true := by kernel_rfl
@[go_sem] theorem tby28 : bytesT Go.Proofs.Tryd.prog 28 = 8 := by kernel_rfl
@[go_sem] theorem tar28 : arrT Go.Proofs.Tryd.prog 28 = none := by kernel_rfl
@[go_sem] theorem tag28 : aggT Go.Proofs.Tryd.prog 28 = false := by kernel_rfl
@[go_sem] theorem tsz31 : szT Go.Proofs.Tryd.prog 31 = 1 := by kernel_rfl
attribute [go_sem] Go.Proofs.Tryd.underlying31
@[go_sem] theorem tel31 : elemT Go.Proofs.Tryd.prog 31 = some 48 := by kernel_rfl
@[go_sem] theorem tze31 : zeroA Go.Proofs.Tryd.prog 31 = some [.slice .cap0 26 []] := by kernel_rfl
@[go_sem] theorem tzo31 : zeroOk Go.Proofs.Tryd.prog 31 = true := by kernel_rfl
@[go_sem] theorem tby31 : bytesT Go.Proofs.Tryd.prog 31 = 24 := by kernel_rfl
@[go_sem] theorem tar31 : arrT Go.Proofs.Tryd.prog 31 = none := by kernel_rfl
@[go_sem] theorem tag31 : aggT Go.Proofs.Tryd.prog 31 = false := by kernel_rfl
@[go_sem] theorem tsz33 : szT Go.Proofs.Tryd.prog 33 = 1 := by kernel_rfl
attribute [go_sem] Go.Proofs.Tryd.underlying33
@[go_sem] theorem tel33 : elemT Go.Proofs.Tryd.prog 33 = some 3 := by kernel_rfl
@[go_sem] theorem tze33 : zeroA Go.Proofs.Tryd.prog 33 = some [.slice .cap0 1 []] := by kernel_rfl
@[go_sem] theorem tzo33 : zeroOk Go.Proofs.Tryd.prog 33 = true := by kernel_rfl
@[go_sem] theorem tby33 : bytesT Go.Proofs.Tryd.prog 33 = 24 := by kernel_rfl
@[go_sem] theorem tar33 : arrT Go.Proofs.Tryd.prog 33 = none := by kernel_rfl
@[go_sem] theorem tag33 : aggT Go.Proofs.Tryd.prog 33 = false := by kernel_rfl
@[go_sem] theorem tsz34 : szT Go.Proofs.Tryd.prog 34 = 1 := by kernel_rfl
attribute [go_sem] Go.Proofs.Tryd.underlying34
@[go_sem] theorem tel34 : elemT Go.Proofs.Tryd.prog 34 = some 5 := by kernel_rfl
@[go_sem] theorem tze34 : zeroA Go.Proofs.Tryd.prog 34 = some [.slice .cap0 1 []] := by kernel_rfl
@[go_sem] theorem tzo34 : zeroOk Go.Proofs.Tryd.prog 34 = true := by kernel_rfl
@[go_sem] theorem tby34 : bytesT Go.Proofs.Tryd.prog 34 = 24 := by kernel_rfl
@[go_sem] theorem tar34 : arrT Go.Proofs.Tryd.prog 34 = none := by kernel_rfl
@[go_sem] theorem tag34 : aggT Go.Proofs.Tryd.prog 34 = false := by kernel_rfl
@[go_sem] theorem tsz36 : szT Go.Proofs.Tryd.prog 36 = 3 := by kernel_rfl
attribute [go_sem] Go.Proofs.Tryd.underlying36
@[go_sem] theorem tze36 : zeroA Go.Proofs.Tryd.prog 36 = some [.int .i64 0, .int .i64 0, .slice .cap0 1 []] := by kernel_rfl
@[go_sem] theorem tzo36 : zeroOk Go.Proofs.Tryd.prog 36 = true := by kernel_rfl
@[go_sem] theorem tby36 : bytesT Go.Proofs.Tryd.prog 36 = 40 := by kernel_rfl
@[go_sem] theorem tpl36 : placesOk Go.Proofs.Tryd.prog 36 = true := by kernel_rfl
@[go_sem] theorem tfi36_0 : fieldT Go.Proofs.Tryd.prog 36 0 = some (0, 1, 3) := by kernel_rfl
@[go_sem] theorem tfi36_1 : fieldT Go.Proofs.Tryd.prog 36 1 = some (1, 1, 3) := by kernel_rfl
@[go_sem] theorem tfi36_2 : fieldT Go.Proofs.Tryd.prog 36 2 = some (2, 1, 34) := by kernel_rfl
@[go_sem] theorem tar36 : arrT Go.Proofs.Tryd.prog 36 = none := by kernel_rfl
@[go_sem] theorem tag36 : aggT Go.Proofs.Tryd.prog 36 = true := by kernel_rfl
@[go_sem] theorem tsz38 : szT Go.Proofs.Tryd.prog 38 = 7 := by kernel_rfl
attribute [go_sem] Go.Proofs.Tryd.underlying38
@[go_sem] theorem tze38 : zeroA Go.Proofs.Tryd.prog 38 = some [.int .i64 0, .int .i64 0, .int .i64 0, .slice .cap0 1 [], .int .i64 0, .int .i64 0, .slice .cap0 1 []] := by kernel_rfl
@[go_sem] theorem tzo38 : zeroOk Go.Proofs.Tryd.prog 38 = true := by kernel_rfl
@[go_sem] theorem tby38 : bytesT Go.Proofs.Tryd.prog 38 = 88 := by kernel_rfl
@[go_sem] theorem tpl38 : placesOk Go.Proofs.Tryd.prog 38 = true := by kernel_rfl
@[go_sem] theorem tfi38_0 : fieldT Go.Proofs.Tryd.prog 38 0 = some (0, 1, 3) := by kernel_rfl
@[go_sem] theorem tfi38_1 : fieldT Go.Proofs.Tryd.prog 38 1 = some (1, 1, 3) := by kernel_rfl
@[go_sem] theorem tfi38_2 : fieldT Go.Proofs.Tryd.prog 38 2 = some (2, 1, 3) := by kernel_rfl
@[go_sem] theorem tfi38_3 : fieldT Go.Proofs.Tryd.prog 38 3 = some (3, 1, 33) := by kernel_rfl
@[go_sem] theorem tfi38_4 : fieldT Go.Proofs.Tryd.prog 38 4 = some (4, 3, 36) := by kernel_rfl
@[go_sem] theorem tar38 : arrT Go.Proofs.Tryd.prog 38 = none := by kernel_rfl
@[go_sem] theorem tag38 : aggT Go.Proofs.Tryd.prog 38 = true := by kernel_rfl
@[go_sem] theorem tsz39 : szT Go.Proofs.Tryd.prog 39 = 1 := by kernel_rfl
attribute [go_sem] Go.Proofs.Tryd.underlying39
@[go_sem] theorem tel39 : elemT Go.Proofs.Tryd.prog 39 = some 135 := by kernel_rfl
@[go_sem] theorem tze39 : zeroA Go.Proofs.Tryd.prog 39 = some [.slice .cap0 2 []] := by kernel_rfl
@[go_sem] theorem tzo39 : zeroOk Go.Proofs.Tryd.prog 39 = true := by kernel_rfl
@[go_sem] theorem tby39 : bytesT Go.Proofs.Tryd.prog 39 = 24 := by kernel_rfl
@[go_sem] theorem tar39 : arrT Go.Proofs.Tryd.prog 39 = none := by kernel_rfl
@[go_sem] theorem tag39 : aggT Go.Proofs.Tryd.prog 39 = false := by kernel_rfl
@[go_sem] theorem tsz40 : szT Go.Proofs.Tryd.prog 40 = 1 := by kernel_rfl
attribute [go_sem] Go.Proofs.Tryd.underlying40
@[go_sem] theorem tel40 : elemT Go.Proofs.Tryd.prog 40 = some 151 := by kernel_rfl
@[go_sem] theorem tze40 : zeroA Go.Proofs.Tryd.prog 40 = some [.slice .cap0 2 []] := by kernel_rfl
@[go_sem] theorem tzo40 : zeroOk Go.Proofs.Tryd.prog 40 = true := by kernel_rfl
@[go_sem] theorem tby40 : bytesT Go.Proofs.Tryd.prog 40 = 24 := by kernel_rfl
@[go_sem] theorem tar40 : arrT Go.Proofs.Tryd.prog 40 = none := by kernel_rfl
@[go_sem] theorem tag40 : aggT Go.Proofs.Tryd.prog 40 = false := by kernel_rfl
@[go_sem] theorem tsz41 : szT Go.Proofs.Tryd.prog 41 = 1 := by kernel_rfl
attribute [go_sem] Go.Proofs.Tryd.underlying41
@[go_sem] theorem tel41 : elemT Go.Proofs.Tryd.prog 41 = some 22 := by kernel_rfl
@[go_sem] theorem tze41 : zeroA Go.Proofs.Tryd.prog 41 = some [.slice .cap0 1 []] := by kernel_rfl
@[go_sem] theorem tzo41 : zeroOk Go.Proofs.Tryd.prog 41 = true := by kernel_rfl
@[go_sem] theorem tby41 : bytesT Go.Proofs.Tryd.prog 41 = 24 := by kernel_rfl
@[go_sem] theorem tar41 : arrT Go.Proofs.Tryd.prog 41 = none := by kernel_rfl
@[go_sem] theorem tag41 : aggT Go.Proofs.Tryd.prog 41 = false := by kernel_rfl
@[go_sem] theorem tsz42 : szT Go.Proofs.Tryd.prog 42 = 1 := by kernel_rfl
attribute [go_sem] Go.Proofs.Tryd.underlying42
@[go_sem] theorem tel42 : elemT Go.Proofs.Tryd.prog 42 = some 160 := by kernel_rfl
@[go_sem] theorem tze42 : zeroA Go.Proofs.Tryd.prog 42 = some [.slice .cap0 3 []] := by kernel_rfl
@[go_sem] theorem tzo42 : zeroOk Go.Proofs.Tryd.prog 42 = true := by kernel_rfl
@[go_sem] theorem tby42 : bytesT Go.Proofs.Tryd.prog 42 = 24 := by kernel_rfl
@[go_sem] theorem tar42 : arrT Go.Proofs.Tryd.prog 42 = none := by kernel_rfl
@[go_sem] theorem tag42 : aggT Go.Proofs.Tryd.prog 42 = false := by kernel_rfl
@[go_sem] theorem tsz44 : szT Go.Proofs.Tryd.prog 44 = 11 := by kernel_rfl
attribute [go_sem] Go.Proofs.Tryd.underlying44
@[go_sem] theorem tze44 : zeroA Go.Proofs.Tryd.prog 44 = some [.int .i64 0, .slice .cap0 2 [], .int .u32 0, .int .i64 0, .int .i64 0, .bool false, .bool false, .int .u32 0, .int .u32 0, .slice .cap0 1 [], .slice .cap0 3 []] := by kernel_rfl
@[go_sem] theorem tzo44 : zeroOk Go.Proofs.Tryd.prog 44 = true := by kernel_rfl
@[go_sem] theorem tby44 : bytesT Go.Proofs.Tryd.prog 44 = 120 := by kernel_rfl
@[go_sem] theorem tpl44 : placesOk Go.Proofs.Tryd.prog 44 = true := by kernel_rfl
@[go_sem] theorem tfi44_0 : fieldT Go.Proofs.Tryd.prog 44 0 = some (0, 1, 3) := by kernel_rfl
@[go_sem] theorem tfi44_1 : fieldT Go.Proofs.Tryd.prog 44 1 = some (1, 1, 40) := by kernel_rfl
@[go_sem] theorem tfi44_2 : fieldT Go.Proofs.Tryd.prog 44 2 = some (2, 1, 22) := by kernel_rfl
@[go_sem] theorem tfi44_3 : fieldT Go.Proofs.Tryd.prog 44 3 = some (3, 1, 3) := by kernel_rfl
@[go_sem] theorem tfi44_4 : fieldT Go.Proofs.Tryd.prog 44 4 = some (4, 1, 3) := by kernel_rfl
@[go_sem] theorem tfi44_5 : fieldT Go.Proofs.Tryd.prog 44 5 = some (5, 1, 4) := by kernel_rfl
@[go_sem] theorem tfi44_6 : fieldT Go.Proofs.Tryd.prog 44 6 = some (6, 1, 4) := by kernel_rfl
@[go_sem] theorem tfi44_7 : fieldT Go.Proofs.Tryd.prog 44 7 = some (7, 1, 22) := by kernel_rfl
@[go_sem] theorem tfi44_8 : fieldT Go.Proofs.Tryd.prog 44 8 = some (8, 1, 22) := by kernel_rfl
@[go_sem] theorem tfi44_9 : fieldT Go.Proofs.Tryd.prog 44 9 = some (9, 1, 41) := by kernel_rfl
@[go_sem] theorem tfi44_10 : fieldT Go.Proofs.Tryd.prog 44 10 = some (10, 1, 42) := by kernel_rfl
@[go_sem] theorem tar44 : arrT Go.Proofs.Tryd.prog 44 = none := by kernel_rfl
@[go_sem] theorem tag44 : aggT Go.Proofs.Tryd.prog 44 = true := by kernel_rfl
@[go_sem] theorem tsz46 : szT Go.Proofs.Tryd.prog 46 = 13 := by kernel_rfl
attribute [go_sem] Go.Proofs.Tryd.underlying46
@[go_sem] theorem tze46 : zeroA Go.Proofs.Tryd.prog 46 = some [.slice .cap0 2 [], .int .i64 0, .slice .cap0 2 [], .int .u32 0, .int .i64 0, .int .i64 0, .bool false, .bool false, .int .u32 0, .int .u32 0, .slice .cap0 1 [], .slice .cap0 3 [], .slice .cap0 2 []] := by kernel_rfl
@[go_sem] theorem tzo46 : zeroOk Go.Proofs.Tryd.prog 46 = true := by kernel_rfl
@[go_sem] theorem tby46 : bytesT Go.Proofs.Tryd.prog 46 = 168 := by kernel_rfl
@[go_sem] theorem tpl46 : placesOk Go.Proofs.Tryd.prog 46 = true := by kernel_rfl
@[go_sem] theorem tfi46_0 : fieldT Go.Proofs.Tryd.prog 46 0 = some (0, 1, 39) := by kernel_rfl
@[go_sem] theorem tfi46_1 : fieldT Go.Proofs.Tryd.prog 46 1 = some (1, 11, 44) := by kernel_rfl
@[go_sem] theorem tfi46_2 : fieldT Go.Proofs.Tryd.prog 46 2 = some (12, 1, 39) := by kernel_rfl
@[go_sem] theorem tar46 : arrT Go.Proofs.Tryd.prog 46 = none := by kernel_rfl
@[go_sem] theorem tag46 : aggT Go.Proofs.Tryd.prog 46 = true := by kernel_rfl
@[go_sem] theorem tsz48 : szT Go.Proofs.Tryd.prog 48 = 26 := by kernel_rfl
attribute [go_sem] Go.Proofs.Tryd.underlying48
@[go_sem] theorem tze48 : zeroA Go.Proofs.Tryd.prog 48 = some [.int .i64 0, .int .i64 0, .int .i64 0, .slice .cap0 1 [], .int .i64 0, .int .i64 0, .slice .cap0 1 [], .slice .cap0 1 [], .slice .cap0 2 [], .int .i64 0, .slice .cap0 2 [], .int .u32 0, .int .i64 0, .int .i64 0, .bool false, .bool false, .int .u32 0, .int .u32 0, .slice .cap0 1 [], .slice .cap0 3 [], .slice .cap0 2 [], .bool false, .bool false, .bool false, .bool false, .bool false] := by kernel_rfl
@[go_sem] theorem tzo48 : zeroOk Go.Proofs.Tryd.prog 48 = true := by kernel_rfl
@[go_sem] theorem tby48 : bytesT Go.Proofs.Tryd.prog 48 = 288 := by kernel_rfl
@[go_sem] theorem tpl48 : placesOk Go.Proofs.Tryd.prog 48 = true := by kernel_rfl
@[go_sem] theorem tfi48_0 : fieldT Go.Proofs.Tryd.prog 48 0 = some (0, 7, 38) := by kernel_rfl
@[go_sem] theorem tfi48_1 : fieldT Go.Proofs.Tryd.prog 48 1 = some (7, 1, 34) := by kernel_rfl
@[go_sem] theorem tfi48_2 : fieldT Go.Proofs.Tryd.prog 48 2 = some (8, 13, 46) := by kernel_rfl
@[go_sem] theorem tfi48_3 : fieldT Go.Proofs.Tryd.prog 48 3 = some (21, 1, 4) := by kernel_rfl
@[go_sem] theorem tfi48_4 : fieldT Go.Proofs.Tryd.prog 48 4 = some (22, 1, 4) := by kernel_rfl
@[go_sem] theorem tfi48_5 : fieldT Go.Proofs.Tryd.prog 48 5 = some (23, 1, 4) := by kernel_rfl
@[go_sem] theorem tfi48_6 : fieldT Go.Proofs.Tryd.prog 48 6 = some (24, 1, 4) := by kernel_rfl
@[go_sem] theorem tfi48_7 : fieldT Go.Proofs.Tryd.prog 48 7 = some (25, 1, 4) := by kernel_rfl
@[go_sem] theorem tar48 : arrT Go.Proofs.Tryd.prog 48 = none := by kernel_rfl
@[go_sem] theorem tag48 : aggT Go.Proofs.Tryd.prog 48 = true := by kernel_rfl
@[go_sem] theorem tsz56 : szT Go.Proofs.Tryd.prog 56 = 3 := by kernel_rfl
attribute [go_sem] Go.Proofs.Tryd.underlying56
@[go_sem] theorem tze56 : zeroA Go.Proofs.Tryd.prog 56 = some [.int .i64 0, .int .i64 0, .int .i64 0] := by kernel_rfl
@[go_sem] theorem tzo56 : zeroOk Go.Proofs.Tryd.prog 56 = true := by kernel_rfl
@[go_sem] theorem tby56 : bytesT Go.Proofs.Tryd.prog 56 = 24 := by kernel_rfl
@[go_sem] theorem tpl56 : placesOk Go.Proofs.Tryd.prog 56 = true := by kernel_rfl
@[go_sem] theorem tfl56 : flatEq Go.Proofs.Tryd.prog 56 = true := by kernel_rfl
@[go_sem] theorem tar56 : arrT Go.Proofs.Tryd.prog 56 = some (3, 3) := by kernel_rfl
@[go_sem] theorem tag56 : aggT Go.Proofs.Tryd.prog 56 = true := by kernel_rfl
@[go_sem] theorem tsz58 : szT Go.Proofs.Tryd.prog 58 = 3 := by kernel_rfl
attribute [go_sem] Go.Proofs.Tryd.underlying58
@[go_sem] theorem tze58 : zeroA Go.Proofs.Tryd.prog 58 = some [.int .i64 0, .int .i64 0, .int .i64 0] := by kernel_rfl
@[go_sem] theorem tzo58 : zeroOk Go.Proofs.Tryd.prog 58 = true := by kernel_rfl
@[go_sem] theorem tby58 : bytesT Go.Proofs.Tryd.prog 58 = 24 := by kernel_rfl
@[go_sem] theorem tpl58 : placesOk Go.Proofs.Tryd.prog 58 = true := by kernel_rfl
@[go_sem] theorem tfi58_0 : fieldT Go.Proofs.Tryd.prog 58 0 = some (0, 3, 56) := by kernel_rfl
@[go_sem] theorem tar58 : arrT Go.Proofs.Tryd.prog 58 = none := by kernel_rfl
@[go_sem] theorem tag58 : aggT Go.Proofs.Tryd.prog 58 = true := by kernel_rfl
@[go_sem] theorem tsz64 : szT Go.Proofs.Tryd.prog 64 = 1 := by kernel_rfl
attribute [go_sem] Go.Proofs.Tryd.underlying64
@[go_sem] theorem tel64 : elemT Go.Proofs.Tryd.prog 64 = some 85 := by kernel_rfl
@[go_sem] theorem tze64 : zeroA Go.Proofs.Tryd.prog 64 = some [.slice .cap0 2 []] := by kernel_rfl
@[go_sem] theorem tzo64 : zeroOk Go.Proofs.Tryd.prog 64 = true := by kernel_rfl
@[go_sem] theorem tby64 : bytesT Go.Proofs.Tryd.prog 64 = 24 := by kernel_rfl
@[go_sem] theorem tar64 : arrT Go.Proofs.Tryd.prog 64 = none := by kernel_rfl
@[go_sem] theorem tag64 : aggT Go.Proofs.Tryd.prog 64 = false := by kernel_rfl
@[go_sem] theorem tsz66 : szT Go.Proofs.Tryd.prog 66 = 5 := by kernel_rfl
attribute [go_sem] Go.Proofs.Tryd.underlying66
@[go_sem] theorem tze66 : zeroA Go.Proofs.Tryd.prog 66 = some [.int .i64 0, .int .i64 0, .int .i64 0, .int .u32 0, .slice .cap0 2 []] := by kernel_rfl
@[go_sem] theorem tzo66 : zeroOk Go.Proofs.Tryd.prog 66 = true := by kernel_rfl
@[go_sem] theorem tby66 : bytesT Go.Proofs.Tryd.prog 66 = 56 := by kernel_rfl
@[go_sem] theorem tpl66 : placesOk Go.Proofs.Tryd.prog 66 = true := by kernel_rfl
@[go_sem] theorem tfi66_0 : fieldT Go.Proofs.Tryd.prog 66 0 = some (0, 1, 3) := by kernel_rfl
@[go_sem] theorem tfi66_1 : fieldT Go.Proofs.Tryd.prog 66 1 = some (1, 1, 3) := by kernel_rfl
@[go_sem] theorem tfi66_2 : fieldT Go.Proofs.Tryd.prog 66 2 = some (2, 1, 3) := by kernel_rfl
@[go_sem] theorem tfi66_3 : fieldT Go.Proofs.Tryd.prog 66 3 = some (3, 1, 22) := by kernel_rfl
@[go_sem] theorem tfi66_4 : fieldT Go.Proofs.Tryd.prog 66 4 = some (4, 1, 64) := by kernel_rfl
@[go_sem] theorem tar66 : arrT Go.Proofs.Tryd.prog 66 = none := by kernel_rfl
@[go_sem] theorem tag66 : aggT Go.Proofs.Tryd.prog 66 = true := by kernel_rfl
@[go_sem] theorem tsz70 : szT Go.Proofs.Tryd.prog 70 = 17 := by kernel_rfl
attribute [go_sem] Go.Proofs.Tryd.underlying70
@[go_sem] theorem tze70 : zeroA Go.Proofs.Tryd.prog 70 = some [.int .u32 0, .int .u32 0, .int .u32 0, .int .i64 0, .int .u32 0, .int .u32 0, .int .i64 0, .slice .cap0 3 [], .slice .cap0 3 [], .bool false, .int .i64 0, .int .i64 0, .int .i64 0, .int .i64 0, .bool false, .int .u32 0, .int .i64 0] := by kernel_rfl
@[go_sem] theorem tzo70 : zeroOk Go.Proofs.Tryd.prog 70 = true := by kernel_rfl
@[go_sem] theorem tby70 : bytesT Go.Proofs.Tryd.prog 70 = 144 := by kernel_rfl
@[go_sem] theorem tpl70 : placesOk Go.Proofs.Tryd.prog 70 = true := by kernel_rfl
@[go_sem] theorem tfi70_0 : fieldT Go.Proofs.Tryd.prog 70 0 = some (0, 4, 24) := by kernel_rfl
@[go_sem] theorem tfi70_1 : fieldT Go.Proofs.Tryd.prog 70 1 = some (4, 5, 27) := by kernel_rfl
@[go_sem] theorem tfi70_2 : fieldT Go.Proofs.Tryd.prog 70 2 = some (9, 1, 4) := by kernel_rfl
@[go_sem] theorem tfi70_3 : fieldT Go.Proofs.Tryd.prog 70 3 = some (10, 1, 3) := by kernel_rfl
@[go_sem] theorem tfi70_4 : fieldT Go.Proofs.Tryd.prog 70 4 = some (11, 3, 58) := by kernel_rfl
@[go_sem] theorem tfi70_5 : fieldT Go.Proofs.Tryd.prog 70 5 = some (14, 1, 4) := by kernel_rfl
@[go_sem] theorem tfi70_6 : fieldT Go.Proofs.Tryd.prog 70 6 = some (15, 1, 22) := by kernel_rfl
@[go_sem] theorem tfi70_7 : fieldT Go.Proofs.Tryd.prog 70 7 = some (16, 1, 3) := by kernel_rfl
@[go_sem] theorem tar70 : arrT Go.Proofs.Tryd.prog 70 = none := by kernel_rfl
@[go_sem] theorem tag70 : aggT Go.Proofs.Tryd.prog 70 = true := by kernel_rfl
@[go_sem] theorem tsz77 : szT Go.Proofs.Tryd.prog 77 = 1 := by kernel_rfl
attribute [go_sem] Go.Proofs.Tryd.underlying77
@[go_sem] theorem tze77 : zeroA Go.Proofs.Tryd.prog 77 = some [.int .i64 0] := by kernel_rfl
@[go_sem] theorem tzo77 : zeroOk Go.Proofs.Tryd.prog 77 = true := by kernel_rfl
@[go_sem] theorem tby77 : bytesT Go.Proofs.Tryd.prog 77 = 8 := by kernel_rfl
@[go_sem] theorem tar77 : arrT Go.Proofs.Tryd.prog 77 = none := by kernel_rfl
@[go_sem] theorem tin77 : intT Go.Proofs.Tryd.prog 77 = some .i64 := by kernel_rfl
@[go_sem] theorem tag77 : aggT Go.Proofs.Tryd.prog 77 = false := by kernel_rfl
@[go_sem] theorem tsz85 : szT Go.Proofs.Tryd.prog 85 = 2 := by kernel_rfl
attribute [go_sem] Go.Proofs.Tryd.underlying85
@[go_sem] theorem tze85 : zeroA Go.Proofs.Tryd.prog 85 = some [.int .i64 0, .slice .cap0 1 []] := by kernel_rfl
@[go_sem] theorem tzo85 : zeroOk Go.Proofs.Tryd.prog 85 = true := by kernel_rfl
@[go_sem] theorem tby85 : bytesT Go.Proofs.Tryd.prog 85 = 32 := by kernel_rfl
@[go_sem] theorem tpl85 : placesOk Go.Proofs.Tryd.prog 85 = true := by kernel_rfl
@[go_sem] theorem tfi85_0 : fieldT Go.Proofs.Tryd.prog 85 0 = some (0, 1, 3) := by kernel_rfl
@[go_sem] theorem tfi85_1 : fieldT Go.Proofs.Tryd.prog 85 1 = some (1, 1, 34) := by kernel_rfl
@[go_sem] theorem tar85 : arrT Go.Proofs.Tryd.prog 85 = none := by kernel_rfl
@[go_sem] theorem tag85 : aggT Go.Proofs.Tryd.prog 85 = true := by kernel_rfl
@[go_sem] theorem tsz89 : szT Go.Proofs.Tryd.prog 89 = 6 := by kernel_rfl
attribute [go_sem] Go.Proofs.Tryd.underlying89
@[go_sem] theorem tze89 : zeroA Go.Proofs.Tryd.prog 89 = some [.str [], .str [], .str [], .str [], .str [], .str []] := by kernel_rfl
@[go_sem] theorem tzo89 : zeroOk Go.Proofs.Tryd.prog 89 = true := by kernel_rfl
@[go_sem] theorem tby89 : bytesT Go.Proofs.Tryd.prog 89 = 96 := by kernel_rfl
@[go_sem] theorem tpl89 : placesOk Go.Proofs.Tryd.prog 89 = true := by kernel_rfl
@[go_sem] theorem tar89 : arrT Go.Proofs.Tryd.prog 89 = some (6, 9) := by kernel_rfl
@[go_sem] theorem tag89 : aggT Go.Proofs.Tryd.prog 89 = true := by kernel_rfl
@[go_sem] theorem tsz91 : szT Go.Proofs.Tryd.prog 91 = 2 := by kernel_rfl
attribute [go_sem] Go.Proofs.Tryd.underlying91
@[go_sem] theorem tze91 : zeroA Go.Proofs.Tryd.prog 91 = some [.int .i64 0, .int .i64 0] := by kernel_rfl
@[go_sem] theorem tzo91 : zeroOk Go.Proofs.Tryd.prog 91 = true := by kernel_rfl
@[go_sem] theorem tby91 : bytesT Go.Proofs.Tryd.prog 91 = 16 := by kernel_rfl
@[go_sem] theorem tpl91 : placesOk Go.Proofs.Tryd.prog 91 = true := by kernel_rfl
@[go_sem] theorem tfl91 : flatEq Go.Proofs.Tryd.prog 91 = true := by kernel_rfl
@[go_sem] theorem tfi91_0 : fieldT Go.Proofs.Tryd.prog 91 0 = some (0, 1, 3) := by kernel_rfl
@[go_sem] theorem tfi91_1 : fieldT Go.Proofs.Tryd.prog 91 1 = some (1, 1, 3) := by kernel_rfl
@[go_sem] theorem tar91 : arrT Go.Proofs.Tryd.prog 91 = none := by kernel_rfl
@[go_sem] theorem tag91 : aggT Go.Proofs.Tryd.prog 91 = true := by kernel_rfl
@[go_sem] theorem tsz92 : szT Go.Proofs.Tryd.prog 92 = 32 := by kernel_rfl
attribute [go_sem] Go.Proofs.Tryd.underlying92
@[go_sem] theorem tze92 : zeroA Go.Proofs.Tryd.prog 92 = some [.int .i64 0, .int .i64 0, .int .i64 0, .int .i64 0, .int .i64 0, .int .i64 0, .int .i64 0, .int .i64 0, .int .i64 0, .int .i64 0, .int .i64 0, .int .i64 0, .int .i64 0, .int .i64 0, .int .i64 0, .int .i64 0, .int .i64 0, .int .i64 0, .int .i64 0, .int .i64 0, .int .i64 0, .int .i64 0, .int .i64 0, .int .i64 0, .int .i64 0, .int .i64 0, .int .i64 0, .int .i64 0, .int .i64 0, .int .i64 0, .int .i64 0, .int .i64 0] := by kernel_rfl
@[go_sem] theorem tzo92 : zeroOk Go.Proofs.Tryd.prog 92 = true := by kernel_rfl
@[go_sem] theorem tby92 : bytesT Go.Proofs.Tryd.prog 92 = 256 := by kernel_rfl
@[go_sem] theorem tpl92 : placesOk Go.Proofs.Tryd.prog 92 = true := by kernel_rfl
@[go_sem] theorem tar92 : arrT Go.Proofs.Tryd.prog 92 = some (16, 91) := by kernel_rfl
@[go_sem] theorem tag92 : aggT Go.Proofs.Tryd.prog 92 = true := by kernel_rfl
@[go_sem] theorem tsz93 : szT Go.Proofs.Tryd.prog 93 = 192 := by kernel_rfl
attribute [go_sem] Go.Proofs.Tryd.underlying93
@[go_sem] theorem tze93 : zeroA Go.Proofs.Tryd.prog 93 = some [.int .i64 0, .int .i64 0, .int .i64 0, .int .i64 0, .int .i64 0, .int .i64 0, .int .i64 0, .int .i64 0, .int .i64 0, .int .i64 0, .int .i64 0, .int .i64 0, .int .i64 0, .int .i64 0, .int .i64 0, .int .i64 0, .int .i64 0, .int .i64 0, .int .i64 0, .int .i64 0, .int .i64 0, .int .i64 0, .int .i64 0, .int .i64 0, .int .i64 0, .int .i64 0, .int .i64 0, .int .i64 0, .int .i64 0, .int .i64 0, .int .i64 0, .int .i64 0, .int .i64 0, .int .i64 0, .int .i64 0, .int .i64 0, .int .i64 0, .int .i64 0, .int .i64 0, .int .i64 0, .int .i64 0, .int .i64 0, .int .i64 0, .int .i64 0, .int .i64 0, .int .i64 0, .int .i64 0, .int .i64 0, .int .i64 0, .int .i64 0, .int .i64 0, .int .i64 0, .int .i64 0, .int .i64 0, .int .i64 0, .int .i64 0, .int .i64 0, .int .i64 0, .int .i64 0, .int .i64 0, .int .i64 0, .int .i64 0, .int .i64 0, .int .i64 0, .int .i64 0, .int .i64 0, .int .i64 0, .int .i64 0, .int .i64 0, .int .i64 0, .int .i64 0, .int .i64 0, .int .i64 0, .int .i64 0, .int .i64 0, .int .i64 0, .int .i64 0, .int .i64 0, .int .i64 0, .int .i64 0, .int .i64 0, .int .i64 0, .int .i64 0, .int .i64 0, .int .i64 0, .int .i64 0, .int .i64 0, .int .i64 0, .int .i64 0, .int .i64 0, .int .i64 0, .int .i64 0, .int .i64 0, .int .i64 0, .int .i64 0, .int .i64 0, .int .i64 0, .int .i64 0, .int .i64 0, .int .i64 0, .int .i64 0, .int .i64 0, .int .i64 0, .int .i64 0, .int .i64 0, .int .i64 0, .int .i64 0, .int .i64 0, .int .i64 0, .int .i64 0, .int .i64 0, .int .i64 0, .int .i64 0, .int .i64 0, .int .i64 0, .int .i64 0, .int .i64 0, .int .i64 0, .int .i64 0, .int .i64 0, .int .i64 0, .int .i64 0, .int .i64 0, .int .i64 0, .int .i64 0, .int .i64 0, .int .i64 0, .int .i64 0, .int .i64 0, .int .i64 0, .int .i64 0, .int .i64 0, .int .i64 0, .int .i64 0, .int .i64 0, .int .i64 0, .int .i64 0, .int .i64 0, .int .i64 0, .int .i64 0, .int .i64 0, .int .i64 0, .int .i64 0, .int .i64 0, .int .i64 0, .int .i64 0, .int .i64 0, .int .i64 0, .int .i64 0, .int .i64 0, .int .i64 0, .int .i64 0, .int .i64 0, .int .i64 0, .int .i64 0, .int .i64 0, .int .i64 0, .int .i64 0, .int .i64 0, .int .i64 0, .int .i64 0, .int .i64 0, .int .i64 0, .int .i64 0, .int .i64 0, .int .i64 0, .int .i64 0, .int .i64 0, .int .i64 0, .int .i64 0, .int .i64 0, .int .i64 0, .int .i64 0, .int .i64 0, .int .i64 0, .int .i64 0, .int .i64 0, .int .i64 0, .int .i64 0, .int .i64 0, .int .i64 0, .int .i64 0, .int .i64 0, .int .i64 0, .int .i64 0, .int .i64 0, .int .i64 0, .int .i64 0, .int .i64 0, .int .i64 0, .int .i64 0, .int .i64 0] := by kernel_rfl
@[go_sem] theorem tzo93 : zeroOk Go.Proofs.Tryd.prog 93 = true := by kernel_rfl
@[go_sem] theorem tby93 : bytesT Go.Proofs.Tryd.prog 93 = 1536 := by kernel_rfl
@[go_sem] theorem tpl93 : placesOk Go.Proofs.Tryd.prog 93 = true := by kernel_rfl
@[go_sem] theorem tar93 : arrT Go.Proofs.Tryd.prog 93 = some (6, 92) := by kernel_rfl
@[go_sem] theorem tag93 : aggT Go.Proofs.Tryd.prog 93 = true := by kernel_rfl
@[go_sem] theorem tsz98 : szT Go.Proofs.Tryd.prog 98 = 1 := by kernel_rfl
attribute [go_sem] Go.Proofs.Tryd.underlying98
@[go_sem] theorem tze98 : zeroA Go.Proofs.Tryd.prog 98 = some [.nilp] := by kernel_rfl
@[go_sem] theorem tzo98 : zeroOk Go.Proofs.Tryd.prog 98 = true := by kernel_rfl
@[go_sem] theorem tby98 : bytesT Go.Proofs.Tryd.prog 98 = 8 := by kernel_rfl
@[go_sem] theorem tar98 : arrT Go.Proofs.Tryd.prog 98 = none := by kernel_rfl
@[go_sem] theorem tag98 : aggT Go.Proofs.Tryd.prog 98 = false := by kernel_rfl
@[go_sem] theorem tsz111 : szT Go.Proofs.Tryd.prog 111 = 1 := by kernel_rfl
attribute [go_sem] Go.Proofs.Tryd.underlying111
@[go_sem] theorem tze111 : zeroA Go.Proofs.Tryd.prog 111 = some [.int .u16 0] := by kernel_rfl
@[go_sem] theorem tzo111 : zeroOk Go.Proofs.Tryd.prog 111 = true := by kernel_rfl
@[go_sem] theorem tby111 : bytesT Go.Proofs.Tryd.prog 111 = 2 := by kernel_rfl
@[go_sem] theorem tar111 : arrT Go.Proofs.Tryd.prog 111 = none := by kernel_rfl
@[go_sem] theorem tin111 : intT Go.Proofs.Tryd.prog 111 = some .u16 := by kernel_rfl
@[go_sem] theorem tag111 : aggT Go.Proofs.Tryd.prog 111 = false := by kernel_rfl
@[go_sem] theorem tsz114 : szT Go.Proofs.Tryd.prog 114 = 1 := by kernel_rfl
attribute [go_sem] Go.Proofs.Tryd.underlying114
@[go_sem] theorem tze114 : zeroA Go.Proofs.Tryd.prog 114 = some [.nilp] := by kernel_rfl
@[go_sem] theorem tzo114 : zeroOk Go.Proofs.Tryd.prog 114 = true := by kernel_rfl
@[go_sem] theorem tby114 : bytesT Go.Proofs.Tryd.prog 114 = 8 := by kernel_rfl
@[go_sem] theorem tar114 : arrT Go.Proofs.Tryd.prog 114 = none := by kernel_rfl
@[go_sem] theorem tag114 : aggT Go.Proofs.Tryd.prog 114 = false := by kernel_rfl
@[go_sem] theorem tsz123 : szT Go.Proofs.Tryd.prog 123 = 1 := by kernel_rfl
attribute [go_sem] Go.Proofs.Tryd.underlying123
@[go_sem] theorem tzo123 : zeroOk Go.Proofs.Tryd.prog 123 = true := by kernel_rfl
@[go_sem] theorem tby123 : bytesT Go.Proofs.Tryd.prog 123 = 8 := by kernel_rfl
@[go_sem] theorem tar123 : arrT Go.Proofs.Tryd.prog 123 = none := by kernel_rfl
@[go_sem] theorem tag123 : aggT Go.Proofs.Tryd.prog 123 = false := by kernel_rfl
@[go_sem] theorem tsz130 : szT Go.Proofs.Tryd.prog 130 = 5 := by kernel_rfl
attribute [go_sem] Go.Proofs.Tryd.underlying130
@[go_sem] theorem tze130 : zeroA Go.Proofs.Tryd.prog 130 = some [.int .i64 0, .int .i64 0, .int .i64 0, .int .i64 0, .int .i64 0] := by kernel_rfl
@[go_sem] theorem tzo130 : zeroOk Go.Proofs.Tryd.prog 130 = true := by kernel_rfl
@[go_sem] theorem tby130 : bytesT Go.Proofs.Tryd.prog 130 = 40 := by kernel_rfl
@[go_sem] theorem tpl130 : placesOk Go.Proofs.Tryd.prog 130 = true := by kernel_rfl
@[go_sem] theorem tar130 : arrT Go.Proofs.Tryd.prog 130 = some (5, 3) := by kernel_rfl
@[go_sem] theorem tag130 : aggT Go.Proofs.Tryd.prog 130 = true := by kernel_rfl
@[go_sem] theorem tsz132 : szT Go.Proofs.Tryd.prog 132 = 2 := by kernel_rfl
attribute [go_sem] Go.Proofs.Tryd.underlying132
@[go_sem] theorem tze132 : zeroA Go.Proofs.Tryd.prog 132 = some [.slice .cap0 1 [], .bool false] := by kernel_rfl
@[go_sem] theorem tzo132 : zeroOk Go.Proofs.Tryd.prog 132 = true := by kernel_rfl
@[go_sem] theorem tby132 : bytesT Go.Proofs.Tryd.prog 132 = 32 := by kernel_rfl
@[go_sem] theorem tpl132 : placesOk Go.Proofs.Tryd.prog 132 = true := by kernel_rfl
@[go_sem] theorem tfi132_0 : fieldT Go.Proofs.Tryd.prog 132 0 = some (0, 1, 34) := by kernel_rfl
@[go_sem] theorem tfi132_1 : fieldT Go.Proofs.Tryd.prog 132 1 = some (1, 1, 4) := by kernel_rfl
@[go_sem] theorem tar132 : arrT Go.Proofs.Tryd.prog 132 = none := by kernel_rfl
@[go_sem] theorem tag132 : aggT Go.Proofs.Tryd.prog 132 = true := by kernel_rfl
@[go_sem] theorem tsz135 : szT Go.Proofs.Tryd.prog 135 = 2 := by kernel_rfl
attribute [go_sem] Go.Proofs.Tryd.underlying135
@[go_sem] theorem tze135 : zeroA Go.Proofs.Tryd.prog 135 = some [.int .u32 0, .int .i64 0] := by kernel_rfl
@[go_sem] theorem tzo135 : zeroOk Go.Proofs.Tryd.prog 135 = true := by kernel_rfl
@[go_sem] theorem tby135 : bytesT Go.Proofs.Tryd.prog 135 = 16 := by kernel_rfl
@[go_sem] theorem tpl135 : placesOk Go.Proofs.Tryd.prog 135 = true := by kernel_rfl
@[go_sem] theorem tfl135 : flatEq Go.Proofs.Tryd.prog 135 = true := by kernel_rfl
@[go_sem] theorem tfi135_0 : fieldT Go.Proofs.Tryd.prog 135 0 = some (0, 1, 22) := by kernel_rfl
@[go_sem] theorem tfi135_1 : fieldT Go.Proofs.Tryd.prog 135 1 = some (1, 1, 3) := by kernel_rfl
@[go_sem] theorem tar135 : arrT Go.Proofs.Tryd.prog 135 = none := by kernel_rfl
@[go_sem] theorem tag135 : aggT Go.Proofs.Tryd.prog 135 = true := by kernel_rfl
@[go_sem] theorem tsz138 : szT Go.Proofs.Tryd.prog 138 = 1 := by kernel_rfl
attribute [go_sem] Go.Proofs.Tryd.underlying138
@[go_sem] theorem tze138 : zeroA Go.Proofs.Tryd.prog 138 = some [.nilp] := by kernel_rfl
@[go_sem] theorem tzo138 : zeroOk Go.Proofs.Tryd.prog 138 = true := by kernel_rfl
@[go_sem] theorem tby138 : bytesT Go.Proofs.Tryd.prog 138 = 8 := by kernel_rfl
@[go_sem] theorem tar138 : arrT Go.Proofs.Tryd.prog 138 = none := by kernel_rfl
@[go_sem] theorem tag138 : aggT Go.Proofs.Tryd.prog 138 = false := by kernel_rfl
@[go_sem] theorem tsz141 : szT Go.Proofs.Tryd.prog 141 = 17 := by kernel_rfl
attribute [go_sem] Go.Proofs.Tryd.underlying141
@[go_sem] theorem tze141 : zeroA Go.Proofs.Tryd.prog 141 = some [.int .i64 0, .slice .cap0 2 [], .int .u32 0, .int .i64 0, .int .i64 0, .bool false, .bool false, .int .u32 0, .int .u32 0, .slice .cap0 1 [], .slice .cap0 3 [], .slice .cap0 1 [], .slice .cap0 2 [], .bool false, .int .u32 0, .slice .cap0 1 [], .bool false] := by kernel_rfl
@[go_sem] theorem tzo141 : zeroOk Go.Proofs.Tryd.prog 141 = true := by kernel_rfl
@[go_sem] theorem tby141 : bytesT Go.Proofs.Tryd.prog 141 = 208 := by kernel_rfl
@[go_sem] theorem tpl141 : placesOk Go.Proofs.Tryd.prog 141 = true := by kernel_rfl
@[go_sem] theorem tfi141_0 : fieldT Go.Proofs.Tryd.prog 141 0 = some (0, 11, 44) := by kernel_rfl
@[go_sem] theorem tfi141_1 : fieldT Go.Proofs.Tryd.prog 141 1 = some (11, 1, 33) := by kernel_rfl
@[go_sem] theorem tfi141_2 : fieldT Go.Proofs.Tryd.prog 141 2 = some (12, 1, 40) := by kernel_rfl
@[go_sem] theorem tfi141_3 : fieldT Go.Proofs.Tryd.prog 141 3 = some (13, 1, 4) := by kernel_rfl
@[go_sem] theorem tfi141_4 : fieldT Go.Proofs.Tryd.prog 141 4 = some (14, 1, 22) := by kernel_rfl
@[go_sem] theorem tfi141_5 : fieldT Go.Proofs.Tryd.prog 141 5 = some (15, 1, 34) := by kernel_rfl
@[go_sem] theorem tfi141_6 : fieldT Go.Proofs.Tryd.prog 141 6 = some (16, 1, 4) := by kernel_rfl
@[go_sem] theorem tar141 : arrT Go.Proofs.Tryd.prog 141 = none := by kernel_rfl
@[go_sem] theorem tag141 : aggT Go.Proofs.Tryd.prog 141 = true := by kernel_rfl
@[go_sem] theorem tsz144 : szT Go.Proofs.Tryd.prog 144 = 4 := by kernel_rfl
attribute [go_sem] Go.Proofs.Tryd.underlying144
@[go_sem] theorem tze144 : zeroA Go.Proofs.Tryd.prog 144 = some [.int .i64 0, .int .i64 0, .slice .cap0 1 [], .slice .cap0 1 []] := by kernel_rfl
@[go_sem] theorem tzo144 : zeroOk Go.Proofs.Tryd.prog 144 = true := by kernel_rfl
@[go_sem] theorem tby144 : bytesT Go.Proofs.Tryd.prog 144 = 64 := by kernel_rfl
@[go_sem] theorem tpl144 : placesOk Go.Proofs.Tryd.prog 144 = true := by kernel_rfl
@[go_sem] theorem tfi144_0 : fieldT Go.Proofs.Tryd.prog 144 0 = some (0, 1, 3) := by kernel_rfl
@[go_sem] theorem tfi144_1 : fieldT Go.Proofs.Tryd.prog 144 1 = some (1, 1, 3) := by kernel_rfl
@[go_sem] theorem tfi144_2 : fieldT Go.Proofs.Tryd.prog 144 2 = some (2, 1, 34) := by kernel_rfl
@[go_sem] theorem tfi144_3 : fieldT Go.Proofs.Tryd.prog 144 3 = some (3, 1, 34) := by kernel_rfl
@[go_sem] theorem tar144 : arrT Go.Proofs.Tryd.prog 144 = none := by kernel_rfl
@[go_sem] theorem tag144 : aggT Go.Proofs.Tryd.prog 144 = true := by kernel_rfl
@[go_sem] theorem tsz151 : szT Go.Proofs.Tryd.prog 151 = 2 := by kernel_rfl
attribute [go_sem] Go.Proofs.Tryd.underlying151
@[go_sem] theorem tze151 : zeroA Go.Proofs.Tryd.prog 151 = some [.int .i64 0, .slice .cap0 1 []] := by kernel_rfl
@[go_sem] theorem tzo151 : zeroOk Go.Proofs.Tryd.prog 151 = true := by kernel_rfl
@[go_sem] theorem tby151 : bytesT Go.Proofs.Tryd.prog 151 = 32 := by kernel_rfl
@[go_sem] theorem tpl151 : placesOk Go.Proofs.Tryd.prog 151 = true := by kernel_rfl
@[go_sem] theorem tfi151_0 : fieldT Go.Proofs.Tryd.prog 151 0 = some (0, 1, 3) := by kernel_rfl
@[go_sem] theorem tfi151_1 : fieldT Go.Proofs.Tryd.prog 151 1 = some (1, 1, 41) := by kernel_rfl
@[go_sem] theorem tar151 : arrT Go.Proofs.Tryd.prog 151 = none := by kernel_rfl
@[go_sem] theorem tag151 : aggT Go.Proofs.Tryd.prog 151 = true := by kernel_rfl
@[go_sem] theorem tsz152 : szT Go.Proofs.Tryd.prog 152 = 1 := by kernel_rfl
attribute [go_sem] Go.Proofs.Tryd.underlying152
@[go_sem] theorem tze152 : zeroA Go.Proofs.Tryd.prog 152 = some [.int .u64 0] := by kernel_rfl
@[go_sem] theorem tzo152 : zeroOk Go.Proofs.Tryd.prog 152 = true := by kernel_rfl
@[go_sem] theorem tby152 : bytesT Go.Proofs.Tryd.prog 152 = 8 := by kernel_rfl
@[go_sem] theorem tar152 : arrT Go.Proofs.Tryd.prog 152 = none := by kernel_rfl
@[go_sem] theorem tin152 : intT Go.Proofs.Tryd.prog 152 = some .u64 := by kernel_rfl
@[go_sem] theorem tag152 : aggT Go.Proofs.Tryd.prog 152 = false := by kernel_rfl
@[go_sem] theorem tsz156 : szT Go.Proofs.Tryd.prog 156 = 3 := by kernel_rfl
attribute [go_sem] Go.Proofs.Tryd.underlying156
@[go_sem] theorem tze156 : zeroA Go.Proofs.Tryd.prog 156 = some [.int .i64 0, .int .i64 0, .int .i64 0] := by kernel_rfl
@[go_sem] theorem tzo156 : zeroOk Go.Proofs.Tryd.prog 156 = true := by kernel_rfl
@[go_sem] theorem tby156 : bytesT Go.Proofs.Tryd.prog 156 = 24 := by kernel_rfl
@[go_sem] theorem tpl156 : placesOk Go.Proofs.Tryd.prog 156 = true := by kernel_rfl
@[go_sem] theorem tfl156 : flatEq Go.Proofs.Tryd.prog 156 = true := by kernel_rfl
@[go_sem] theorem tfi156_0 : fieldT Go.Proofs.Tryd.prog 156 0 = some (0, 1, 3) := by kernel_rfl
@[go_sem] theorem tfi156_1 : fieldT Go.Proofs.Tryd.prog 156 1 = some (1, 1, 3) := by kernel_rfl
@[go_sem] theorem tfi156_2 : fieldT Go.Proofs.Tryd.prog 156 2 = some (2, 1, 3) := by kernel_rfl
@[go_sem] theorem tar156 : arrT Go.Proofs.Tryd.prog 156 = none := by kernel_rfl
@[go_sem] theorem tag156 : aggT Go.Proofs.Tryd.prog 156 = true := by kernel_rfl
@[go_sem] theorem tsz157 : szT Go.Proofs.Tryd.prog 157 = 57 := by kernel_rfl
attribute [go_sem] Go.Proofs.Tryd.underlying157
@[go_sem] theorem tze157 : zeroA Go.Proofs.Tryd.prog 157 = some [.int .i64 0, .int .i64 0, .int .i64 0, .int .i64 0, .int .i64 0, .int .i64 0, .int .i64 0, .int .i64 0, .int .i64 0, .int .i64 0, .int .i64 0, .int .i64 0, .int .i64 0, .int .i64 0, .int .i64 0, .int .i64 0, .int .i64 0, .int .i64 0, .int .i64 0, .int .i64 0, .int .i64 0, .int .i64 0, .int .i64 0, .int .i64 0, .int .i64 0, .int .i64 0, .int .i64 0, .int .i64 0, .int .i64 0, .int .i64 0, .int .i64 0, .int .i64 0, .int .i64 0, .int .i64 0, .int .i64 0, .int .i64 0, .int .i64 0, .int .i64 0, .int .i64 0, .int .i64 0, .int .i64 0, .int .i64 0, .int .i64 0, .int .i64 0, .int .i64 0, .int .i64 0, .int .i64 0, .int .i64 0, .int .i64 0, .int .i64 0, .int .i64 0, .int .i64 0, .int .i64 0, .int .i64 0, .int .i64 0, .int .i64 0, .int .i64 0] := by kernel_rfl
@[go_sem] theorem tzo157 : zeroOk Go.Proofs.Tryd.prog 157 = true := by kernel_rfl
@[go_sem] theorem tby157 : bytesT Go.Proofs.Tryd.prog 157 = 456 := by kernel_rfl
@[go_sem] theorem tpl157 : placesOk Go.Proofs.Tryd.prog 157 = true := by kernel_rfl
@[go_sem] theorem tar157 : arrT Go.Proofs.Tryd.prog 157 = some (19, 156) := by kernel_rfl
@[go_sem] theorem tag157 : aggT Go.Proofs.Tryd.prog 157 = true := by kernel_rfl
@[go_sem] theorem tsz160 : szT Go.Proofs.Tryd.prog 160 = 3 := by kernel_rfl
attribute [go_sem] Go.Proofs.Tryd.underlying160
@[go_sem] theorem tze160 : zeroA Go.Proofs.Tryd.prog 160 = some [.int .i64 0, .int .i64 0, .slice .cap0 1 []] := by kernel_rfl
@[go_sem] theorem tzo160 : zeroOk Go.Proofs.Tryd.prog 160 = true := by kernel_rfl
@[go_sem] theorem tby160 : bytesT Go.Proofs.Tryd.prog 160 = 40 := by kernel_rfl
@[go_sem] theorem tpl160 : placesOk Go.Proofs.Tryd.prog 160 = true := by kernel_rfl
@[go_sem] theorem tfi160_0 : fieldT Go.Proofs.Tryd.prog 160 0 = some (0, 1, 3) := by kernel_rfl
@[go_sem] theorem tfi160_1 : fieldT Go.Proofs.Tryd.prog 160 1 = some (1, 1, 3) := by kernel_rfl
@[go_sem] theorem tfi160_2 : fieldT Go.Proofs.Tryd.prog 160 2 = some (2, 1, 34) := by kernel_rfl
@[go_sem] theorem tar160 : arrT Go.Proofs.Tryd.prog 160 = none := by kernel_rfl
@[go_sem] theorem tag160 : aggT Go.Proofs.Tryd.prog 160 = true := by kernel_rfl
@[go_sem] theorem tsz161 : szT Go.Proofs.Tryd.prog 161 = 1 := by kernel_rfl
attribute [go_sem] Go.Proofs.Tryd.underlying161
@[go_sem] theorem tzo161 : zeroOk Go.Proofs.Tryd.prog 161 = true := by kernel_rfl
@[go_sem] theorem tby161 : bytesT Go.Proofs.Tryd.prog 161 = 8 := by kernel_rfl
@[go_sem] theorem tar161 : arrT Go.Proofs.Tryd.prog 161 = none := by kernel_rfl
@[go_sem] theorem tag161 : aggT Go.Proofs.Tryd.prog 161 = false := by kernel_rfl
@[go_sem] theorem tsz176 : szT Go.Proofs.Tryd.prog 176 = 1 := by kernel_rfl
attribute [go_sem] Go.Proofs.Tryd.underlying176
@[go_sem] theorem tzo176 : zeroOk Go.Proofs.Tryd.prog 176 = true := by kernel_rfl
@[go_sem] theorem tby176 : bytesT Go.Proofs.Tryd.prog 176 = 8 := by kernel_rfl
@[go_sem] theorem tar176 : arrT Go.Proofs.Tryd.prog 176 = none := by kernel_rfl
@[go_sem] theorem tag176 : aggT Go.Proofs.Tryd.prog 176 = false := by kernel_rfl
@[go_sem] theorem tsz192 : szT Go.Proofs.Tryd.prog 192 = 1 := by kernel_rfl
attribute [go_sem] Go.Proofs.Tryd.underlying192
@[go_sem] theorem tel192 : elemT Go.Proofs.Tryd.prog 192 = some 199 := by kernel_rfl
@[go_sem] theorem tze192 : zeroA Go.Proofs.Tryd.prog 192 = some [.slice .cap0 7 []] := by kernel_rfl
@[go_sem] theorem tzo192 : zeroOk Go.Proofs.Tryd.prog 192 = true := by kernel_rfl
@[go_sem] theorem tby192 : bytesT Go.Proofs.Tryd.prog 192 = 24 := by kernel_rfl
@[go_sem] theorem tar192 : arrT Go.Proofs.Tryd.prog 192 = none := by kernel_rfl
@[go_sem] theorem tag192 : aggT Go.Proofs.Tryd.prog 192 = false := by kernel_rfl
@[go_sem] theorem tsz193 : szT Go.Proofs.Tryd.prog 193 = 1 := by kernel_rfl
attribute [go_sem] Go.Proofs.Tryd.underlying193
@[go_sem] theorem tel193 : elemT Go.Proofs.Tryd.prog 193 = some 201 := by kernel_rfl
@[go_sem] theorem tze193 : zeroA Go.Proofs.Tryd.prog 193 = some [.slice .cap0 3 []] := by kernel_rfl
@[go_sem] theorem tzo193 : zeroOk Go.Proofs.Tryd.prog 193 = true := by kernel_rfl
@[go_sem] theorem tby193 : bytesT Go.Proofs.Tryd.prog 193 = 24 := by kernel_rfl
@[go_sem] theorem tar193 : arrT Go.Proofs.Tryd.prog 193 = none := by kernel_rfl
@[go_sem] theorem tag193 : aggT Go.Proofs.Tryd.prog 193 = false := by kernel_rfl
@[go_sem] theorem tsz195 : szT Go.Proofs.Tryd.prog 195 = 3 := by kernel_rfl
attribute [go_sem] Go.Proofs.Tryd.underlying195
@[go_sem] theorem tze195 : zeroA Go.Proofs.Tryd.prog 195 = some [.slice .cap0 7 [], .slice .cap0 3 [], .int .i64 0] := by kernel_rfl
@[go_sem] theorem tzo195 : zeroOk Go.Proofs.Tryd.prog 195 = true := by kernel_rfl
@[go_sem] theorem tby195 : bytesT Go.Proofs.Tryd.prog 195 = 56 := by kernel_rfl
@[go_sem] theorem tpl195 : placesOk Go.Proofs.Tryd.prog 195 = true := by kernel_rfl
@[go_sem] theorem tfi195_0 : fieldT Go.Proofs.Tryd.prog 195 0 = some (0, 1, 192) := by kernel_rfl
@[go_sem] theorem tfi195_1 : fieldT Go.Proofs.Tryd.prog 195 1 = some (1, 1, 193) := by kernel_rfl
@[go_sem] theorem tfi195_2 : fieldT Go.Proofs.Tryd.prog 195 2 = some (2, 1, 3) := by kernel_rfl
@[go_sem] theorem tar195 : arrT Go.Proofs.Tryd.prog 195 = none := by kernel_rfl
@[go_sem] theorem tag195 : aggT Go.Proofs.Tryd.prog 195 = true := by kernel_rfl
@[go_sem] theorem tsz197 : szT Go.Proofs.Tryd.prog 197 = 1 := by kernel_rfl
attribute [go_sem] Go.Proofs.Tryd.underlying197
@[go_sem] theorem tel197 : elemT Go.Proofs.Tryd.prog 197 = some 203 := by kernel_rfl
@[go_sem] theorem tze197 : zeroA Go.Proofs.Tryd.prog 197 = some [.slice .cap0 4 []] := by kernel_rfl
@[go_sem] theorem tzo197 : zeroOk Go.Proofs.Tryd.prog 197 = true := by kernel_rfl
@[go_sem] theorem tby197 : bytesT Go.Proofs.Tryd.prog 197 = 24 := by kernel_rfl
@[go_sem] theorem tar197 : arrT Go.Proofs.Tryd.prog 197 = none := by kernel_rfl
@[go_sem] theorem tag197 : aggT Go.Proofs.Tryd.prog 197 = false := by kernel_rfl
@[go_sem] theorem tsz199 : szT Go.Proofs.Tryd.prog 199 = 7 := by kernel_rfl
attribute [go_sem] Go.Proofs.Tryd.underlying199
@[go_sem] theorem tze199 : zeroA Go.Proofs.Tryd.prog 199 = some [.int .i64 0, .bool false, .int .i64 0, .int .u32 0, .str [], .slice .cap0 4 [], .slice .cap0 1 []] := by kernel_rfl
@[go_sem] theorem tzo199 : zeroOk Go.Proofs.Tryd.prog 199 = true := by kernel_rfl
@[go_sem] theorem tby199 : bytesT Go.Proofs.Tryd.prog 199 = 96 := by kernel_rfl
@[go_sem] theorem tpl199 : placesOk Go.Proofs.Tryd.prog 199 = true := by kernel_rfl
@[go_sem] theorem tfi199_0 : fieldT Go.Proofs.Tryd.prog 199 0 = some (0, 1, 3) := by kernel_rfl
@[go_sem] theorem tfi199_1 : fieldT Go.Proofs.Tryd.prog 199 1 = some (1, 1, 4) := by kernel_rfl
@[go_sem] theorem tfi199_2 : fieldT Go.Proofs.Tryd.prog 199 2 = some (2, 1, 3) := by kernel_rfl
@[go_sem] theorem tfi199_3 : fieldT Go.Proofs.Tryd.prog 199 3 = some (3, 1, 22) := by kernel_rfl
@[go_sem] theorem tfi199_4 : fieldT Go.Proofs.Tryd.prog 199 4 = some (4, 1, 9) := by kernel_rfl
@[go_sem] theorem tfi199_5 : fieldT Go.Proofs.Tryd.prog 199 5 = some (5, 1, 197) := by kernel_rfl
@[go_sem] theorem tfi199_6 : fieldT Go.Proofs.Tryd.prog 199 6 = some (6, 1, 41) := by kernel_rfl
@[go_sem] theorem tar199 : arrT Go.Proofs.Tryd.prog 199 = none := by kernel_rfl
@[go_sem] theorem tag199 : aggT Go.Proofs.Tryd.prog 199 = true := by kernel_rfl
@[go_sem] theorem tsz201 : szT Go.Proofs.Tryd.prog 201 = 3 := by kernel_rfl
attribute [go_sem] Go.Proofs.Tryd.underlying201
@[go_sem] theorem tze201 : zeroA Go.Proofs.Tryd.prog 201 = some [.int .i64 0, .int .i64 0, .int .u32 0] := by kernel_rfl
@[go_sem] theorem tzo201 : zeroOk Go.Proofs.Tryd.prog 201 = true := by kernel_rfl
@[go_sem] theorem tby201 : bytesT Go.Proofs.Tryd.prog 201 = 24 := by kernel_rfl
@[go_sem] theorem tpl201 : placesOk Go.Proofs.Tryd.prog 201 = true := by kernel_rfl
@[go_sem] theorem tfl201 : flatEq Go.Proofs.Tryd.prog 201 = true := by kernel_rfl
@[go_sem] theorem tfi201_0 : fieldT Go.Proofs.Tryd.prog 201 0 = some (0, 1, 3) := by kernel_rfl
@[go_sem] theorem tfi201_1 : fieldT Go.Proofs.Tryd.prog 201 1 = some (1, 1, 3) := by kernel_rfl
@[go_sem] theorem tfi201_2 : fieldT Go.Proofs.Tryd.prog 201 2 = some (2, 1, 22) := by kernel_rfl
@[go_sem] theorem tar201 : arrT Go.Proofs.Tryd.prog 201 = none := by kernel_rfl
@[go_sem] theorem tag201 : aggT Go.Proofs.Tryd.prog 201 = true := by kernel_rfl
@[go_sem] theorem tsz203 : szT Go.Proofs.Tryd.prog 203 = 4 := by kernel_rfl
attribute [go_sem] Go.Proofs.Tryd.underlying203
@[go_sem] theorem tze203 : zeroA Go.Proofs.Tryd.prog 203 = some [.int .u32 0, .int .i64 0, .int .i64 0, .int .i64 0] := by kernel_rfl
@[go_sem] theorem tzo203 : zeroOk Go.Proofs.Tryd.prog 203 = true := by kernel_rfl
@[go_sem] theorem tby203 : bytesT Go.Proofs.Tryd.prog 203 = 32 := by kernel_rfl
@[go_sem] theorem tpl203 : placesOk Go.Proofs.Tryd.prog 203 = true := by kernel_rfl
@[go_sem] theorem tfi203_0 : fieldT Go.Proofs.Tryd.prog 203 0 = some (0, 2, 135) := by kernel_rfl
@[go_sem] theorem tfi203_1 : fieldT Go.Proofs.Tryd.prog 203 1 = some (2, 1, 3) := by kernel_rfl
@[go_sem] theorem tfi203_2 : fieldT Go.Proofs.Tryd.prog 203 2 = some (3, 1, 3) := by kernel_rfl
@[go_sem] theorem tar203 : arrT Go.Proofs.Tryd.prog 203 = none := by kernel_rfl
@[go_sem] theorem tag203 : aggT Go.Proofs.Tryd.prog 203 = true := by kernel_rfl

end Go.Abs
