/-
  A CALL's RESULT, TOLD WITHOUT ITS ROWS.
-/
import Derived.Test.YtajeoodipplmlaaDoorAbs18
set_option linter.all false
namespace Go.Abs
open Go Go.RowKit
theorem acx_drop {P : Program} {G : Nat → Option (List LV)} {g : FuncId} {args : List AV} {v v' : AV} {R' : RowsA} (h : ACX P G g args [] [] v [] R') (hw : v.wk (v'.rnR [])) (hc : v'.cl 0 0 = true) : ACX P G g args [] [] v' [] [] := by
  obtain ⟨h1, h2⟩ := h
  refine ⟨h1, fun X argsV hI hl ha => (h2 X argsV hI hl ha).mono ?_⟩
  rintro e w ⟨res, r, σ'', R'', X', rfl, ⟨rfl, rfl, rfl⟩, rfl, hE, hH, hI', hr⟩
  have hrl : X.rows.length = 0 := by have := hI.rowsR; simpa using congrArg List.length this
  have hrl' : X'.rows.length = R''.length := by rw [← hI'.rowsR]; simp
  have hmu : X.mu.length = 0 := hI.muLen
  refine ⟨v', r, [], [], X'.trim 0 [], rfl, ⟨rfl, rfl, rfl⟩, rfl, ?_, fun _ _ _ hh => (by cases hh), ?_, ?_⟩
  · exact hE.trim hrl' (by rw [hmu]; exact Nat.le_refl _) hrl (keeps_nil _)
  · exact hI'.trim (Nat.zero_le _) (keeps_nil _) (by simp [wkS]) rfl
  · exact trim_repV (fun i hi => by cases hi) hc (wkA_sound hw hr)
/-- A slice that is the caller's from now on: as one that is only read. -/
theorem acx_read {P : Program} {G : Nat → Option (List LV)} {g : FuncId} {args : List AV} {i sz : Nat} {e : List (List LV)} {R' : RowsA} (h : ACX P G g args [] [] (.l (.slice (.row i) sz e)) [] R') : ACX P G g args [] [] (.l (.slice .shared sz e)) [] [] :=
  acx_drop h ⟨rfl, rfl⟩ rfl
end Go.Abs
