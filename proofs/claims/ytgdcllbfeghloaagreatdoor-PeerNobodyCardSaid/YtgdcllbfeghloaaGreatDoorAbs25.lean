/-
  THE REST OF A FUNCTION, BY ITS RUN.
-/
import Derived.Test.YtgdcllbfeghloaaGreatDoorAbs21
import Derived.Test.YtgdcllbfeghloaaGreatDoorAbs24
set_option linter.all false
namespace Go.Abs
open Go Go.RowKit
section
variable {P : Program} {G : Nat → Option (List LV)}
def restTrue (P : Program) (rs : Array ResultVar) : CRes → Bool
  | some (e, env, σ, _, _) => endOk e && (match resA P rs (unE env) σ with
    | some (.l (.bool b)) => b
    | _ => false)
  | none => false
theorem awp_run_true (hm : P.follows .mixedOrders = true) (f : Nat) {n : Nat} {c : Code} {rs : Array ResultVar} {env : Env} {σ : List Blk} {R : RowsA} (h : restTrue P rs (icode P G f n c env σ R) = true) :
    AWP P G n 0 0 c (RetOk P rs (fun r s q => r = .l (.bool true) ∧ s = [] ∧ q = []) 0 0) env σ R := by
  rintro X0 X a ⟨σ0, R0, hI0⟩ _ _ hE0 hI he
  unfold restTrue at h
  split at h
  · rename_i e env1 σ1 R1 T1 hrun
    rw [Bool.and_eq_true] at h
    obtain ⟨h3, h4⟩ := h
    split at h4
    · rename_i b hres
      subst h4
      refine wp_mono ((icode_ok hm f).1 _ _ _ _ _ _ _ _ _ _ hrun X a hI he) ?_
      rintro e' a' w' ⟨rfl, X', rfl, hE, hH, hI', he'⟩
      have he2 : EnvOk X' n (unE env1) a' := ⟨he'.1, he'.2.1, fun t v ht => by
        rw [unE_get, Option.map_eq_some_iff] at ht
        obtain ⟨y, y1, rfl⟩ := ht
        obtain ⟨r, r1, r2⟩ := he'.2.2 t y y1
        exact ⟨r, r1, unI_sound r2⟩⟩
      exact ⟨X', unE env1, σ1, R1, ret_p (by cases e' <;> simp [endOk] at h3 ⊢) hres rfl rfl, rfl, hE0.trans hI0 hE, hI', he2⟩
    · cases h4
  · cases h
end
end Go.Abs
