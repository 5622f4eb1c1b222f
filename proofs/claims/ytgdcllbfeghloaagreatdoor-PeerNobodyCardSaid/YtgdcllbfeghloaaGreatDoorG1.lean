/-
  WHAT THE PACKAGE-LEVEL VARIABLES HOLD (sessions and peers).
-/
import Derived.Test.YtgdcllbfeghloaaGreatDoorT0
import Derived.Test.YtgdcllbfeghloaaGreatDoorAbs23
set_option linter.all false
namespace Go.Abs
open Go Go.Proofs
def i64r (n : Int) : Prop := -9223372036854775808 ≤ n ∧ n ≤ 9223372036854775807
def u32r (n : Int) : Prop := 0 ≤ n ∧ n < 4294967296
def tableC : List LV := [.int .i64 1, .int .i64 129, .int .i64 0, .int .i64 0, .int .i64 0, .int .i64 2, .int .i64 0, .int .i64 0, .int .i64 0, .int .i64 0, .int .i64 0, .int .i64 0, .int .i64 0, .int .i64 0, .int .i64 0, .int .i64 0, .int .i64 0, .int .i64 0, .int .i64 0, .int .i64 0, .int .i64 0, .int .i64 0, .int .i64 0, .int .i64 0, .int .i64 0, .int .i64 0, .int .i64 0, .int .i64 0, .int .i64 0, .int .i64 0, .int .i64 0, .int .i64 0, .int .i64 1, .int .i64 0, .int .i64 0, .int .i64 2050, .int .i64 3, .int .i64 2308, .int .i64 2, .int .i64 128, .int .i64 1, .int .i64 129, .int .i64 0, .int .i64 2050, .int .i64 0, .int .i64 2050, .int .i64 0, .int .i64 2050, .int .i64 0, .int .i64 2050, .int .i64 0, .int .i64 2050, .int .i64 0, .int .i64 2050, .int .i64 0, .int .i64 2050, .int .i64 0, .int .i64 2050, .int .i64 0, .int .i64 2050, .int .i64 0, .int .i64 2050, .int .i64 0, .int .i64 2050, .int .i64 2, .int .i64 0, .int .i64 0, .int .i64 2050, .int .i64 3, .int .i64 2308, .int .i64 0, .int .i64 2050, .int .i64 1, .int .i64 129, .int .i64 0, .int .i64 2050, .int .i64 0, .int .i64 2050, .int .i64 0, .int .i64 2050, .int .i64 0, .int .i64 2050, .int .i64 0, .int .i64 2050, .int .i64 0, .int .i64 2050, .int .i64 0, .int .i64 2050, .int .i64 0, .int .i64 2050, .int .i64 0, .int .i64 2050, .int .i64 0, .int .i64 2050, .int .i64 0, .int .i64 2050, .int .i64 3, .int .i64 0, .int .i64 0, .int .i64 2066, .int .i64 3, .int .i64 0, .int .i64 2, .int .i64 2176, .int .i64 0, .int .i64 2066, .int .i64 0, .int .i64 2066, .int .i64 0, .int .i64 2066, .int .i64 4, .int .i64 1544, .int .i64 0, .int .i64 2066, .int .i64 0, .int .i64 2066, .int .i64 0, .int .i64 2066, .int .i64 0, .int .i64 2050, .int .i64 0, .int .i64 2066, .int .i64 0, .int .i64 2066, .int .i64 0, .int .i64 2066, .int .i64 0, .int .i64 2066, .int .i64 4, .int .i64 0, .int .i64 0, .int .i64 2066, .int .i64 4, .int .i64 0, .int .i64 0, .int .i64 2048, .int .i64 0, .int .i64 2066, .int .i64 0, .int .i64 2066, .int .i64 4, .int .i64 1032, .int .i64 0, .int .i64 2066, .int .i64 0, .int .i64 2066, .int .i64 0, .int .i64 2066, .int .i64 0, .int .i64 2066, .int .i64 0, .int .i64 2050, .int .i64 5, .int .i64 544, .int .i64 0, .int .i64 2066, .int .i64 0, .int .i64 2066, .int .i64 0, .int .i64 2066, .int .i64 5, .int .i64 0, .int .i64 0, .int .i64 2130, .int .i64 5, .int .i64 0, .int .i64 0, .int .i64 2112, .int .i64 0, .int .i64 2130, .int .i64 0, .int .i64 2130, .int .i64 5, .int .i64 1032, .int .i64 0, .int .i64 2130, .int .i64 0, .int .i64 2130, .int .i64 0, .int .i64 2130, .int .i64 0, .int .i64 2130, .int .i64 0, .int .i64 2114, .int .i64 5, .int .i64 512, .int .i64 5, .int .i64 512, .int .i64 0, .int .i64 2130, .int .i64 0, .int .i64 2130]
def leastsC : List LV := [.int .i64 0, .int .i64 29, .int .i64 23, .int .i64 21, .int .i64 19]
def looksC : List LV := [.int .i64 0, .int .i64 0, .int .i64 0, .int .i64 64, .int .i64 1, .int .i64 1, .int .i64 64, .int .i64 0, .int .i64 65536, .int .i64 64, .int .i64 4, .int .i64 4, .int .i64 128, .int .i64 4, .int .i64 4, .int .i64 64, .int .i64 4, .int .i64 4, .int .i64 64, .int .i64 0, .int .i64 0, .int .i64 192, .int .i64 6, .int .i64 8, .int .i64 192, .int .i64 0, .int .i64 65536, .int .i64 0, .int .i64 0, .int .i64 0, .int .i64 0, .int .i64 0, .int .i64 0, .int .i64 0, .int .i64 0, .int .i64 0, .int .i64 0, .int .i64 0, .int .i64 0, .int .i64 0, .int .i64 0, .int .i64 0, .int .i64 0, .int .i64 0, .int .i64 0, .int .i64 0, .int .i64 0, .int .i64 0, .int .i64 0, .int .i64 0, .int .i64 0, .int .i64 192, .int .i64 0, .int .i64 65536, .int .i64 192, .int .i64 0, .int .i64 65536]
/-- What the globals hold. -/
def G0 : Nat → Option (List LV) := fun g => if g = 0 then some tableC else if g = 1 then some leastsC else if g = 2 then some looksC else none
@[go_sem] theorem G0_0 : G0 0 = some tableC := rfl
@[go_sem] theorem G0_1 : G0 1 = some leastsC := rfl
@[go_sem] theorem G0_2 : G0 2 = some looksC := rfl
theorem ty_int {xs : List LV} (h : Ty Go.Proofs.Tryz.prog 3 xs) : ∃ n, xs = [.int .i64 n] ∧ i64r n := Ty.int_inv Go.Proofs.Tryz.underlying3 h
theorem arg_int {v : AV} (h : TyA Go.Proofs.Tryz.prog 3 v) : ∃ n, v = .l (.int .i64 n) ∧ i64r n := by
  obtain ⟨x, rfl, h2⟩ := TyA.one tag3 h
  obtain ⟨n, hx, hn⟩ := ty_int h2
  simp only [List.cons.injEq, and_true] at hx
  exact ⟨n, by rw [hx], hn⟩
end Go.Abs
