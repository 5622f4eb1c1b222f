/-
  THE SEAT'S TYPES: sizes, fields, elements, zero values, as the program's table tells them.
-/
import Derived.Test.YtajeoodipplmlaaDoorAbs24
import Derived.Test.YtajeoodipplmlaaDoorProg
set_option linter.all false
namespace Go.Abs
open Go Go.Proofs

@[go_sem] theorem tsz3 : szT Go.Proofs.Tryd.prog 3 = 1 := by kernel_rfl
attribute [go_sem] Go.Proofs.Tryd.underlying3
@[go_sem] theorem tze3 : zeroA Go.Proofs.Tryd.prog 3 = some [.int .i64 0] := by kernel_rfl
@[go_sem] theorem tzo3 : zeroOk Go.Proofs.Tryd.prog 3 = true := by kernel_rfl
@[go_sem] theorem tby3 : bytesT Go.Proofs.Tryd.prog 3 = 8 := by kernel_rfl
@[go_sem] theorem tar3 : arrT Go.Proofs.Tryd.prog 3 = none := by kernel_rfl
@[go_sem] theorem tin3 : intT Go.Proofs.Tryd.prog 3 = some .i64 := by kernel_rfl
@[go_sem] theorem tag3 : aggT Go.Proofs.Tryd.prog 3 = false := by kernel_rfl
@[go_sem] theorem tsz4 : szT Go.Proofs.Tryd.prog 4 = 1 := by kernel_rfl
attribute [go_sem] Go.Proofs.Tryd.underlying4
@[go_sem] theorem tze4 : zeroA Go.Proofs.Tryd.prog 4 = some [.bool false] := by kernel_rfl
@[go_sem] theorem tzo4 : zeroOk Go.Proofs.Tryd.prog 4 = true := by kernel_rfl
@[go_sem] theorem tby4 : bytesT Go.Proofs.Tryd.prog 4 = 1 := by kernel_rfl
@[go_sem] theorem tar4 : arrT Go.Proofs.Tryd.prog 4 = none := by kernel_rfl
@[go_sem] theorem tag4 : aggT Go.Proofs.Tryd.prog 4 = false := by kernel_rfl
@[go_sem] theorem tsz5 : szT Go.Proofs.Tryd.prog 5 = 1 := by kernel_rfl
attribute [go_sem] Go.Proofs.Tryd.underlying5
@[go_sem] theorem tze5 : zeroA Go.Proofs.Tryd.prog 5 = some [.int .u8 0] := by kernel_rfl
@[go_sem] theorem tzo5 : zeroOk Go.Proofs.Tryd.prog 5 = true := by kernel_rfl
@[go_sem] theorem tby5 : bytesT Go.Proofs.Tryd.prog 5 = 1 := by kernel_rfl
@[go_sem] theorem tar5 : arrT Go.Proofs.Tryd.prog 5 = none := by kernel_rfl
@[go_sem] theorem tin5 : intT Go.Proofs.Tryd.prog 5 = some .u8 := by kernel_rfl
@[go_sem] theorem tag5 : aggT Go.Proofs.Tryd.prog 5 = false := by kernel_rfl
@[go_sem] theorem tsz9 : szT Go.Proofs.Tryd.prog 9 = 1 := by kernel_rfl
attribute [go_sem] Go.Proofs.Tryd.underlying9
@[go_sem] theorem tze9 : zeroA Go.Proofs.Tryd.prog 9 = some [.str []] := by kernel_rfl
@[go_sem] theorem tzo9 : zeroOk Go.Proofs.Tryd.prog 9 = true := by kernel_rfl
@[go_sem] theorem tby9 : bytesT Go.Proofs.Tryd.prog 9 = 16 := by kernel_rfl
@[go_sem] theorem tar9 : arrT Go.Proofs.Tryd.prog 9 = none := by kernel_rfl
@[go_sem] theorem tag9 : aggT Go.Proofs.Tryd.prog 9 = false := by kernel_rfl
@[go_sem] theorem tsz22 : szT Go.Proofs.Tryd.prog 22 = 1 := by kernel_rfl
attribute [go_sem] Go.Proofs.Tryd.underlying22
@[go_sem] theorem tel22 : elemT Go.Proofs.Tryd.prog 22 = some 82 := by kernel_rfl
@[go_sem] theorem tze22 : zeroA Go.Proofs.Tryd.prog 22 = some [.slice .cap0 2 []] := by kernel_rfl
@[go_sem] theorem tzo22 : zeroOk Go.Proofs.Tryd.prog 22 = true := by kernel_rfl
@[go_sem] theorem tby22 : bytesT Go.Proofs.Tryd.prog 22 = 24 := by kernel_rfl
@[go_sem] theorem tar22 : arrT Go.Proofs.Tryd.prog 22 = none := by kernel_rfl
@[go_sem] theorem tag22 : aggT Go.Proofs.Tryd.prog 22 = false := by kernel_rfl
@[go_sem] theorem tsz23 : szT Go.Proofs.Tryd.prog 23 = 1 := by kernel_rfl
attribute [go_sem] Go.Proofs.Tryd.underlying23
@[go_sem] theorem tze23 : zeroA Go.Proofs.Tryd.prog 23 = some [.int .u32 0] := by kernel_rfl
@[go_sem] theorem tzo23 : zeroOk Go.Proofs.Tryd.prog 23 = true := by kernel_rfl
@[go_sem] theorem tby23 : bytesT Go.Proofs.Tryd.prog 23 = 4 := by kernel_rfl
@[go_sem] theorem tar23 : arrT Go.Proofs.Tryd.prog 23 = none := by kernel_rfl
@[go_sem] theorem tin23 : intT Go.Proofs.Tryd.prog 23 = some .u32 := by kernel_rfl
@[go_sem] theorem tag23 : aggT Go.Proofs.Tryd.prog 23 = false := by kernel_rfl
@[go_sem] theorem tsz24 : szT Go.Proofs.Tryd.prog 24 = 1 := by kernel_rfl
attribute [go_sem] Go.Proofs.Tryd.underlying24
@[go_sem] theorem tel24 : elemT Go.Proofs.Tryd.prog 24 = some 23 := by kernel_rfl
@[go_sem] theorem tze24 : zeroA Go.Proofs.Tryd.prog 24 = some [.slice .cap0 1 []] := by kernel_rfl
@[go_sem] theorem tzo24 : zeroOk Go.Proofs.Tryd.prog 24 = true := by kernel_rfl
@[go_sem] theorem tby24 : bytesT Go.Proofs.Tryd.prog 24 = 24 := by kernel_rfl
@[go_sem] theorem tar24 : arrT Go.Proofs.Tryd.prog 24 = none := by kernel_rfl
@[go_sem] theorem tag24 : aggT Go.Proofs.Tryd.prog 24 = false := by kernel_rfl
@[go_sem] theorem tsz25 : szT Go.Proofs.Tryd.prog 25 = 1 := by kernel_rfl
attribute [go_sem] Go.Proofs.Tryd.underlying25
@[go_sem] theorem tel25 : elemT Go.Proofs.Tryd.prog 25 = some 53 := by kernel_rfl
@[go_sem] theorem tze25 : zeroA Go.Proofs.Tryd.prog 25 = some [.slice .cap0 3 []] := by kernel_rfl
@[go_sem] theorem tzo25 : zeroOk Go.Proofs.Tryd.prog 25 = true := by kernel_rfl
@[go_sem] theorem tby25 : bytesT Go.Proofs.Tryd.prog 25 = 24 := by kernel_rfl
@[go_sem] theorem tar25 : arrT Go.Proofs.Tryd.prog 25 = none := by kernel_rfl
@[go_sem] theorem tag25 : aggT Go.Proofs.Tryd.prog 25 = false := by kernel_rfl
@[go_sem] theorem tsz27 : szT Go.Proofs.Tryd.prog 27 = 11 := by kernel_rfl
attribute [go_sem] Go.Proofs.Tryd.underlying27
@[go_sem] theorem tze27 : zeroA Go.Proofs.Tryd.prog 27 = some [.int .i64 0, .slice .cap0 2 [], .int .u32 0, .int .i64 0, .int .i64 0, .bool false, .bool false, .int .u32 0, .int .u32 0, .slice .cap0 1 [], .slice .cap0 3 []] := by kernel_rfl
@[go_sem] theorem tzo27 : zeroOk Go.Proofs.Tryd.prog 27 = true := by kernel_rfl
@[go_sem] theorem tby27 : bytesT Go.Proofs.Tryd.prog 27 = 120 := by kernel_rfl
@[go_sem] theorem tpl27 : placesOk Go.Proofs.Tryd.prog 27 = true := by kernel_rfl
@[go_sem] theorem tfi27_0 : fieldT Go.Proofs.Tryd.prog 27 0 = some (0, 1, 3) := by kernel_rfl
@[go_sem] theorem tfi27_1 : fieldT Go.Proofs.Tryd.prog 27 1 = some (1, 1, 22) := by kernel_rfl
@[go_sem] theorem tfi27_2 : fieldT Go.Proofs.Tryd.prog 27 2 = some (2, 1, 23) := by kernel_rfl
@[go_sem] theorem tfi27_3 : fieldT Go.Proofs.Tryd.prog 27 3 = some (3, 1, 3) := by kernel_rfl
@[go_sem] theorem tfi27_4 : fieldT Go.Proofs.Tryd.prog 27 4 = some (4, 1, 3) := by kernel_rfl
@[go_sem] theorem tfi27_5 : fieldT Go.Proofs.Tryd.prog 27 5 = some (5, 1, 4) := by kernel_rfl
@[go_sem] theorem tfi27_6 : fieldT Go.Proofs.Tryd.prog 27 6 = some (6, 1, 4) := by kernel_rfl
@[go_sem] theorem tfi27_7 : fieldT Go.Proofs.Tryd.prog 27 7 = some (7, 1, 23) := by kernel_rfl
@[go_sem] theorem tfi27_8 : fieldT Go.Proofs.Tryd.prog 27 8 = some (8, 1, 23) := by kernel_rfl
@[go_sem] theorem tfi27_9 : fieldT Go.Proofs.Tryd.prog 27 9 = some (9, 1, 24) := by kernel_rfl
@[go_sem] theorem tfi27_10 : fieldT Go.Proofs.Tryd.prog 27 10 = some (10, 1, 25) := by kernel_rfl
@[go_sem] theorem tar27 : arrT Go.Proofs.Tryd.prog 27 = none := by kernel_rfl
@[go_sem] theorem tag27 : aggT Go.Proofs.Tryd.prog 27 = true := by kernel_rfl
@[go_sem] theorem tsz32 : szT Go.Proofs.Tryd.prog 32 = 1 := by kernel_rfl
attribute [go_sem] Go.Proofs.Tryd.underlying32
@[go_sem] theorem tzo32 : zeroOk Go.Proofs.Tryd.prog 32 = true := by kernel_rfl
@[go_sem] theorem tby32 : bytesT Go.Proofs.Tryd.prog 32 = 8 := by kernel_rfl
@[go_sem] theorem tar32 : arrT Go.Proofs.Tryd.prog 32 = none := by kernel_rfl
@[go_sem] theorem tag32 : aggT Go.Proofs.Tryd.prog 32 = false := by kernel_rfl
@[go_sem] theorem tsz36 : szT Go.Proofs.Tryd.prog 36 = 1 := by kernel_rfl
attribute [go_sem] Go.Proofs.Tryd.underlying36
@[go_sem] theorem tel36 : elemT Go.Proofs.Tryd.prog 36 = some 5 := by kernel_rfl
@[go_sem] theorem tze36 : zeroA Go.Proofs.Tryd.prog 36 = some [.slice .cap0 1 []] := by kernel_rfl
@[go_sem] theorem tzo36 : zeroOk Go.Proofs.Tryd.prog 36 = true := by kernel_rfl
@[go_sem] theorem tby36 : bytesT Go.Proofs.Tryd.prog 36 = 24 := by kernel_rfl
@[go_sem] theorem tar36 : arrT Go.Proofs.Tryd.prog 36 = none := by kernel_rfl
@[go_sem] theorem tag36 : aggT Go.Proofs.Tryd.prog 36 = false := by kernel_rfl
@[go_sem] theorem tsz37 : szT Go.Proofs.Tryd.prog 37 = 1 := by kernel_rfl
attribute [go_sem] Go.Proofs.Tryd.underlying37
@[go_sem] theorem tze37 : zeroA Go.Proofs.Tryd.prog 37 = some [.int .i64 0] := by kernel_rfl
@[go_sem] theorem tzo37 : zeroOk Go.Proofs.Tryd.prog 37 = true := by kernel_rfl
@[go_sem] theorem tby37 : bytesT Go.Proofs.Tryd.prog 37 = 8 := by kernel_rfl
@[go_sem] theorem tar37 : arrT Go.Proofs.Tryd.prog 37 = none := by kernel_rfl
@[go_sem] theorem tin37 : intT Go.Proofs.Tryd.prog 37 = some .i64 := by kernel_rfl
@[go_sem] theorem tag37 : aggT Go.Proofs.Tryd.prog 37 = false := by kernel_rfl
@[go_sem] theorem tsz44 : szT Go.Proofs.Tryd.prog 44 = 1 := by kernel_rfl
attribute [go_sem] Go.Proofs.Tryd.underlying44
@[go_sem] theorem tel44 : elemT Go.Proofs.Tryd.prog 44 = some 3 := by kernel_rfl
@[go_sem] theorem tze44 : zeroA Go.Proofs.Tryd.prog 44 = some [.slice .cap0 1 []] := by kernel_rfl
@[go_sem] theorem tzo44 : zeroOk Go.Proofs.Tryd.prog 44 = true := by kernel_rfl
@[go_sem] theorem tby44 : bytesT Go.Proofs.Tryd.prog 44 = 24 := by kernel_rfl
@[go_sem] theorem tar44 : arrT Go.Proofs.Tryd.prog 44 = none := by kernel_rfl
@[go_sem] theorem tag44 : aggT Go.Proofs.Tryd.prog 44 = false := by kernel_rfl
@[go_sem] theorem tsz46 : szT Go.Proofs.Tryd.prog 46 = 3 := by kernel_rfl
attribute [go_sem] Go.Proofs.Tryd.underlying46
@[go_sem] theorem tze46 : zeroA Go.Proofs.Tryd.prog 46 = some [.int .i64 0, .int .i64 0, .slice .cap0 1 []] := by kernel_rfl
@[go_sem] theorem tzo46 : zeroOk Go.Proofs.Tryd.prog 46 = true := by kernel_rfl
@[go_sem] theorem tby46 : bytesT Go.Proofs.Tryd.prog 46 = 40 := by kernel_rfl
@[go_sem] theorem tpl46 : placesOk Go.Proofs.Tryd.prog 46 = true := by kernel_rfl
@[go_sem] theorem tfi46_0 : fieldT Go.Proofs.Tryd.prog 46 0 = some (0, 1, 3) := by kernel_rfl
@[go_sem] theorem tfi46_1 : fieldT Go.Proofs.Tryd.prog 46 1 = some (1, 1, 3) := by kernel_rfl
@[go_sem] theorem tfi46_2 : fieldT Go.Proofs.Tryd.prog 46 2 = some (2, 1, 36) := by kernel_rfl
@[go_sem] theorem tar46 : arrT Go.Proofs.Tryd.prog 46 = none := by kernel_rfl
@[go_sem] theorem tag46 : aggT Go.Proofs.Tryd.prog 46 = true := by kernel_rfl
@[go_sem] theorem tsz53 : szT Go.Proofs.Tryd.prog 53 = 3 := by kernel_rfl
attribute [go_sem] Go.Proofs.Tryd.underlying53
@[go_sem] theorem tze53 : zeroA Go.Proofs.Tryd.prog 53 = some [.int .i64 0, .int .i64 0, .slice .cap0 1 []] := by kernel_rfl
@[go_sem] theorem tzo53 : zeroOk Go.Proofs.Tryd.prog 53 = true := by kernel_rfl
@[go_sem] theorem tby53 : bytesT Go.Proofs.Tryd.prog 53 = 40 := by kernel_rfl
@[go_sem] theorem tpl53 : placesOk Go.Proofs.Tryd.prog 53 = true := by kernel_rfl
@[go_sem] theorem tfi53_0 : fieldT Go.Proofs.Tryd.prog 53 0 = some (0, 1, 3) := by kernel_rfl
@[go_sem] theorem tfi53_1 : fieldT Go.Proofs.Tryd.prog 53 1 = some (1, 1, 3) := by kernel_rfl
@[go_sem] theorem tfi53_2 : fieldT Go.Proofs.Tryd.prog 53 2 = some (2, 1, 36) := by kernel_rfl
@[go_sem] theorem tar53 : arrT Go.Proofs.Tryd.prog 53 = none := by kernel_rfl
@[go_sem] theorem tag53 : aggT Go.Proofs.Tryd.prog 53 = true := by kernel_rfl
@[go_sem] theorem tsz56 : szT Go.Proofs.Tryd.prog 56 = 3 := by kernel_rfl
attribute [go_sem] Go.Proofs.Tryd.underlying56
@[go_sem] theorem tze56 : zeroA Go.Proofs.Tryd.prog 56 = some [.int .i64 0, .int .i64 0, .int .i64 0] := by kernel_rfl
@[go_sem] theorem tzo56 : zeroOk Go.Proofs.Tryd.prog 56 = true := by kernel_rfl
@[go_sem] theorem tby56 : bytesT Go.Proofs.Tryd.prog 56 = 24 := by kernel_rfl
@[go_sem] theorem tpl56 : placesOk Go.Proofs.Tryd.prog 56 = true := by kernel_rfl
@[go_sem] theorem tfl56 : flatEq Go.Proofs.Tryd.prog 56 = true := by kernel_rfl
@[go_sem] theorem tfi56_0 : fieldT Go.Proofs.Tryd.prog 56 0 = some (0, 1, 3) := by kernel_rfl
@[go_sem] theorem tfi56_1 : fieldT Go.Proofs.Tryd.prog 56 1 = some (1, 1, 3) := by kernel_rfl
@[go_sem] theorem tfi56_2 : fieldT Go.Proofs.Tryd.prog 56 2 = some (2, 1, 3) := by kernel_rfl
@[go_sem] theorem tar56 : arrT Go.Proofs.Tryd.prog 56 = none := by kernel_rfl
@[go_sem] theorem tag56 : aggT Go.Proofs.Tryd.prog 56 = true := by kernel_rfl
@[go_sem] theorem tsz57 : szT Go.Proofs.Tryd.prog 57 = 57 := by kernel_rfl
attribute [go_sem] Go.Proofs.Tryd.underlying57
@[go_sem] theorem tze57 : zeroA Go.Proofs.Tryd.prog 57 = some [.int .i64 0, .int .i64 0, .int .i64 0, .int .i64 0, .int .i64 0, .int .i64 0, .int .i64 0, .int .i64 0, .int .i64 0, .int .i64 0, .int .i64 0, .int .i64 0, .int .i64 0, .int .i64 0, .int .i64 0, .int .i64 0, .int .i64 0, .int .i64 0, .int .i64 0, .int .i64 0, .int .i64 0, .int .i64 0, .int .i64 0, .int .i64 0, .int .i64 0, .int .i64 0, .int .i64 0, .int .i64 0, .int .i64 0, .int .i64 0, .int .i64 0, .int .i64 0, .int .i64 0, .int .i64 0, .int .i64 0, .int .i64 0, .int .i64 0, .int .i64 0, .int .i64 0, .int .i64 0, .int .i64 0, .int .i64 0, .int .i64 0, .int .i64 0, .int .i64 0, .int .i64 0, .int .i64 0, .int .i64 0, .int .i64 0, .int .i64 0, .int .i64 0, .int .i64 0, .int .i64 0, .int .i64 0, .int .i64 0, .int .i64 0, .int .i64 0] := by kernel_rfl
@[go_sem] theorem tzo57 : zeroOk Go.Proofs.Tryd.prog 57 = true := by kernel_rfl
@[go_sem] theorem tby57 : bytesT Go.Proofs.Tryd.prog 57 = 456 := by kernel_rfl
@[go_sem] theorem tpl57 : placesOk Go.Proofs.Tryd.prog 57 = true := by kernel_rfl
@[go_sem] theorem tar57 : arrT Go.Proofs.Tryd.prog 57 = some (19, 56) := by kernel_rfl
@[go_sem] theorem tag57 : aggT Go.Proofs.Tryd.prog 57 = true := by kernel_rfl
@[go_sem] theorem tsz58 : szT Go.Proofs.Tryd.prog 58 = 1 := by kernel_rfl
attribute [go_sem] Go.Proofs.Tryd.underlying58
@[go_sem] theorem tze58 : zeroA Go.Proofs.Tryd.prog 58 = some [.int .u64 0] := by kernel_rfl
@[go_sem] theorem tzo58 : zeroOk Go.Proofs.Tryd.prog 58 = true := by kernel_rfl
@[go_sem] theorem tby58 : bytesT Go.Proofs.Tryd.prog 58 = 8 := by kernel_rfl
@[go_sem] theorem tar58 : arrT Go.Proofs.Tryd.prog 58 = none := by kernel_rfl
@[go_sem] theorem tin58 : intT Go.Proofs.Tryd.prog 58 = some .u64 := by kernel_rfl
@[go_sem] theorem tag58 : aggT Go.Proofs.Tryd.prog 58 = false := by kernel_rfl
@[go_sem] theorem tsz61 : szT Go.Proofs.Tryd.prog 61 = 1 := by kernel_rfl
attribute [go_sem] Go.Proofs.Tryd.underlying61
@[go_sem] theorem tzo61 : zeroOk Go.Proofs.Tryd.prog 61 = true := by kernel_rfl
@[go_sem] theorem tby61 : bytesT Go.Proofs.Tryd.prog 61 = 8 := by kernel_rfl
@[go_sem] theorem tar61 : arrT Go.Proofs.Tryd.prog 61 = none := by kernel_rfl
@[go_sem] theorem tag61 : aggT Go.Proofs.Tryd.prog 61 = false := by kernel_rfl
@[go_sem] theorem tsz70 : szT Go.Proofs.Tryd.prog 70 = 1 := by kernel_rfl
attribute [go_sem] Go.Proofs.Tryd.underlying70
@[go_sem] theorem tze70 : zeroA Go.Proofs.Tryd.prog 70 = some [.nilp] := by kernel_rfl
@[go_sem] theorem tzo70 : zeroOk Go.Proofs.Tryd.prog 70 = true := by kernel_rfl
@[go_sem] theorem tby70 : bytesT Go.Proofs.Tryd.prog 70 = 8 := by kernel_rfl
@[go_sem] theorem tar70 : arrT Go.Proofs.Tryd.prog 70 = none := by kernel_rfl
@[go_sem] theorem tag70 : aggT Go.Proofs.Tryd.prog 70 = false := by kernel_rfl
@[go_sem] theorem tsz72 : szT Go.Proofs.Tryd.prog 72 = 17 := by kernel_rfl
attribute [go_sem] Go.Proofs.Tryd.underlying72
@[go_sem] theorem tze72 : zeroA Go.Proofs.Tryd.prog 72 = some [.int .i64 0, .slice .cap0 2 [], .int .u32 0, .int .i64 0, .int .i64 0, .bool false, .bool false, .int .u32 0, .int .u32 0, .slice .cap0 1 [], .slice .cap0 3 [], .slice .cap0 1 [], .slice .cap0 2 [], .bool false, .int .u32 0, .slice .cap0 1 [], .bool false] := by kernel_rfl
@[go_sem] theorem tzo72 : zeroOk Go.Proofs.Tryd.prog 72 = true := by kernel_rfl
@[go_sem] theorem tby72 : bytesT Go.Proofs.Tryd.prog 72 = 208 := by kernel_rfl
@[go_sem] theorem tpl72 : placesOk Go.Proofs.Tryd.prog 72 = true := by kernel_rfl
@[go_sem] theorem tfi72_0 : fieldT Go.Proofs.Tryd.prog 72 0 = some (0, 11, 27) := by kernel_rfl
@[go_sem] theorem tfi72_1 : fieldT Go.Proofs.Tryd.prog 72 1 = some (11, 1, 44) := by kernel_rfl
@[go_sem] theorem tfi72_2 : fieldT Go.Proofs.Tryd.prog 72 2 = some (12, 1, 22) := by kernel_rfl
@[go_sem] theorem tfi72_3 : fieldT Go.Proofs.Tryd.prog 72 3 = some (13, 1, 4) := by kernel_rfl
@[go_sem] theorem tfi72_4 : fieldT Go.Proofs.Tryd.prog 72 4 = some (14, 1, 23) := by kernel_rfl
@[go_sem] theorem tfi72_5 : fieldT Go.Proofs.Tryd.prog 72 5 = some (15, 1, 36) := by kernel_rfl
@[go_sem] theorem tfi72_6 : fieldT Go.Proofs.Tryd.prog 72 6 = some (16, 1, 4) := by kernel_rfl
@[go_sem] theorem tar72 : arrT Go.Proofs.Tryd.prog 72 = none := by kernel_rfl
@[go_sem] theorem tag72 : aggT Go.Proofs.Tryd.prog 72 = true := by kernel_rfl
@[go_sem] theorem tsz75 : szT Go.Proofs.Tryd.prog 75 = 4 := by kernel_rfl
attribute [go_sem] Go.Proofs.Tryd.underlying75
@[go_sem] theorem tze75 : zeroA Go.Proofs.Tryd.prog 75 = some [.int .i64 0, .int .i64 0, .slice .cap0 1 [], .slice .cap0 1 []] := by kernel_rfl
@[go_sem] theorem tzo75 : zeroOk Go.Proofs.Tryd.prog 75 = true := by kernel_rfl
@[go_sem] theorem tby75 : bytesT Go.Proofs.Tryd.prog 75 = 64 := by kernel_rfl
@[go_sem] theorem tpl75 : placesOk Go.Proofs.Tryd.prog 75 = true := by kernel_rfl
@[go_sem] theorem tfi75_0 : fieldT Go.Proofs.Tryd.prog 75 0 = some (0, 1, 3) := by kernel_rfl
@[go_sem] theorem tfi75_1 : fieldT Go.Proofs.Tryd.prog 75 1 = some (1, 1, 3) := by kernel_rfl
@[go_sem] theorem tfi75_2 : fieldT Go.Proofs.Tryd.prog 75 2 = some (2, 1, 36) := by kernel_rfl
@[go_sem] theorem tfi75_3 : fieldT Go.Proofs.Tryd.prog 75 3 = some (3, 1, 36) := by kernel_rfl
@[go_sem] theorem tar75 : arrT Go.Proofs.Tryd.prog 75 = none := by kernel_rfl
@[go_sem] theorem tag75 : aggT Go.Proofs.Tryd.prog 75 = true := by kernel_rfl
@[go_sem] theorem tsz82 : szT Go.Proofs.Tryd.prog 82 = 2 := by kernel_rfl
attribute [go_sem] Go.Proofs.Tryd.underlying82
@[go_sem] theorem tze82 : zeroA Go.Proofs.Tryd.prog 82 = some [.int .i64 0, .slice .cap0 1 []] := by kernel_rfl
@[go_sem] theorem tzo82 : zeroOk Go.Proofs.Tryd.prog 82 = true := by kernel_rfl
@[go_sem] theorem tby82 : bytesT Go.Proofs.Tryd.prog 82 = 32 := by kernel_rfl
@[go_sem] theorem tpl82 : placesOk Go.Proofs.Tryd.prog 82 = true := by kernel_rfl
@[go_sem] theorem tfi82_0 : fieldT Go.Proofs.Tryd.prog 82 0 = some (0, 1, 3) := by kernel_rfl
@[go_sem] theorem tfi82_1 : fieldT Go.Proofs.Tryd.prog 82 1 = some (1, 1, 24) := by kernel_rfl
@[go_sem] theorem tar82 : arrT Go.Proofs.Tryd.prog 82 = none := by kernel_rfl
@[go_sem] theorem tag82 : aggT Go.Proofs.Tryd.prog 82 = true := by kernel_rfl
@[go_sem] theorem tsz84 : szT Go.Proofs.Tryd.prog 84 = 1 := by kernel_rfl
attribute [go_sem] Go.Proofs.Tryd.underlying84
@[go_sem] theorem tzo84 : zeroOk Go.Proofs.Tryd.prog 84 = true := by kernel_rfl
@[go_sem] theorem tby84 : bytesT Go.Proofs.Tryd.prog 84 = 8 := by kernel_rfl
@[go_sem] theorem tar84 : arrT Go.Proofs.Tryd.prog 84 = none := by kernel_rfl
@[go_sem] theorem tag84 : aggT Go.Proofs.Tryd.prog 84 = false := by kernel_rfl
@[go_sem] theorem tsz86 : szT Go.Proofs.Tryd.prog 86 = 1 := by kernel_rfl
attribute [go_sem] Go.Proofs.Tryd.underlying86
@[go_sem] theorem tze86 : zeroA Go.Proofs.Tryd.prog 86 = some [.int .u16 0] := by kernel_rfl
@[go_sem] theorem tzo86 : zeroOk Go.Proofs.Tryd.prog 86 = true := by kernel_rfl
@[go_sem] theorem tby86 : bytesT Go.Proofs.Tryd.prog 86 = 2 := by kernel_rfl
@[go_sem] theorem tar86 : arrT Go.Proofs.Tryd.prog 86 = none := by kernel_rfl
@[go_sem] theorem tin86 : intT Go.Proofs.Tryd.prog 86 = some .u16 := by kernel_rfl
@[go_sem] theorem tag86 : aggT Go.Proofs.Tryd.prog 86 = false := by kernel_rfl
@[go_sem] theorem tsz89 : szT Go.Proofs.Tryd.prog 89 = 1 := by kernel_rfl
attribute [go_sem] Go.Proofs.Tryd.underlying89
@[go_sem] theorem tze89 : zeroA Go.Proofs.Tryd.prog 89 = some [.nilp] := by kernel_rfl
@[go_sem] theorem tzo89 : zeroOk Go.Proofs.Tryd.prog 89 = true := by kernel_rfl
@[go_sem] theorem tby89 : bytesT Go.Proofs.Tryd.prog 89 = 8 := by kernel_rfl
@[go_sem] theorem tar89 : arrT Go.Proofs.Tryd.prog 89 = none := by kernel_rfl
@[go_sem] theorem tag89 : aggT Go.Proofs.Tryd.prog 89 = false := by kernel_rfl
@[go_sem] theorem tsz96 : szT Go.Proofs.Tryd.prog 96 = 1 := by kernel_rfl
attribute [go_sem] Go.Proofs.Tryd.underlying96
@[go_sem] theorem tzo96 : zeroOk Go.Proofs.Tryd.prog 96 = true := by kernel_rfl
@[go_sem] theorem tby96 : bytesT Go.Proofs.Tryd.prog 96 = 8 := by kernel_rfl
@[go_sem] theorem tar96 : arrT Go.Proofs.Tryd.prog 96 = none := by kernel_rfl
@[go_sem] theorem tag96 : aggT Go.Proofs.Tryd.prog 96 = false := by kernel_rfl
@[go_sem] theorem tsz105 : szT Go.Proofs.Tryd.prog 105 = 1 := by kernel_rfl
attribute [go_sem] Go.Proofs.Tryd.underlying105
@[go_sem] theorem tzo105 : zeroOk Go.Proofs.Tryd.prog 105 = true := by kernel_rfl
@[go_sem] theorem tby105 : bytesT Go.Proofs.Tryd.prog 105 = 8 := by kernel_rfl
@[go_sem] theorem tar105 : arrT Go.Proofs.Tryd.prog 105 = none := by kernel_rfl
@[go_sem] theorem tag105 : aggT Go.Proofs.Tryd.prog 105 = false := by kernel_rfl
@[go_sem] theorem tsz107 : szT Go.Proofs.Tryd.prog 107 = 2 := by kernel_rfl
attribute [go_sem] Go.Proofs.Tryd.underlying107
@[go_sem] theorem tze107 : zeroA Go.Proofs.Tryd.prog 107 = some [.slice .cap0 1 [], .bool false] := by kernel_rfl
@[go_sem] theorem tzo107 : zeroOk Go.Proofs.Tryd.prog 107 = true := by kernel_rfl
@[go_sem] theorem tby107 : bytesT Go.Proofs.Tryd.prog 107 = 32 := by kernel_rfl
@[go_sem] theorem tpl107 : placesOk Go.Proofs.Tryd.prog 107 = true := by kernel_rfl
@[go_sem] theorem tfi107_0 : fieldT Go.Proofs.Tryd.prog 107 0 = some (0, 1, 36) := by kernel_rfl
@[go_sem] theorem tfi107_1 : fieldT Go.Proofs.Tryd.prog 107 1 = some (1, 1, 4) := by kernel_rfl
@[go_sem] theorem tar107 : arrT Go.Proofs.Tryd.prog 107 = none := by kernel_rfl
@[go_sem] theorem tag107 : aggT Go.Proofs.Tryd.prog 107 = true := by kernel_rfl
@[go_sem] theorem tsz115 : szT Go.Proofs.Tryd.prog 115 = 1 := by kernel_rfl
attribute [go_sem] Go.Proofs.Tryd.underlying115
@[go_sem] theorem tzo115 : zeroOk Go.Proofs.Tryd.prog 115 = true := by kernel_rfl
@[go_sem] theorem tby115 : bytesT Go.Proofs.Tryd.prog 115 = 8 := by kernel_rfl
@[go_sem] theorem tar115 : arrT Go.Proofs.Tryd.prog 115 = none := by kernel_rfl
@[go_sem] theorem tag115 : aggT Go.Proofs.Tryd.prog 115 = false := by kernel_rfl

end Go.Abs
